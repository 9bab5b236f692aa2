/- above (of the laws of layer 23): what it answers; the expression with an operator above well-formed ones. In Lean alone. -/
import Derived.Test.YtenecpmonodjaaaDoorHValid
import Derived.Test.YtenecpmonodjaaaDoorPAllx6
import Derived.Test.YtenecpmonodjaaaDoorHHead
import Derived.Test.YtenecpmonodjaaaDoorPAllx4
namespace Go.Proofs.YtenecpmonodjaaaDoor.PAll
open Go.RowKit Go.Proofs.YtenecpmonodjaaaDoorW.PrintWords Go.Proofs.YtenecpmonodjaaaDoorW.PrintLast Go.Proofs.YtenecpmonodjaaaDoorW.PrintMore
open Go.Proofs.YtenecpmonodjaaaDoor.Obs
set_option linter.unusedVariables false
set_option linter.unusedSimpArgs false

/-- With rounds enough, r. -/
def EvS {α : Type} (g : Nat → Option α) (r : α) : Prop := ∃ K, ∀ k, K ≤ k → g k = some r
theorem EvS.step {α : Type} {g h : Nat → Option α} {r : α} (hs : ∀ k, g (k + 1) = h k) (H : EvS h r) : EvS g r := by
  obtain ⟨K, hK⟩ := H
  refine ⟨K + 1, fun k hk => ?_⟩
  obtain ⟨m, rfl⟩ : ∃ m, k = m + 1 := ⟨k - 1, by omega⟩
  rw [hs]
  exact hK m (by omega)
theorem EvS.at {α : Type} {g : Nat → Option α} {r : α} (H : EvS g r) : ∃ k, g k = some r := by
  obtain ⟨K, hK⟩ := H
  exact ⟨K, hK K (Nat.le_refl _)⟩
theorem EvS.some {α : Type} {g : Nat → Option α} {r : α} (hs : ∀ k, g (k + 1) = some r) : EvS g r := by
  refine ⟨1, fun k hk => ?_⟩
  obtain ⟨m, rfl⟩ : ∃ m, k = m + 1 := ⟨k - 1, by omega⟩
  exact hs m
theorem wrap_nat (n : Nat) (h : n ≤ 1000000) : wrap64 ((n : Int) + 1) = ((n + 1 : Nat) : Int) := by unfold wrap64; omega

def movedN (m : Nat) (x : S53) : S53 := ⟨x.f0, x.f1, x.f2, x.f3.map fun k => wrap64 (k + m)⟩
def aboveL (op : Int) : List (List S53) → List S53 → List Int → List S53
  | [], out, roots => out ++ [⟨op, 0, ⟨#[]⟩, roots⟩]
  | p :: r, out, roots => aboveL op r (out ++ p.map (movedN out.length)) (roots ++ [wrap64 (((out.length + p.length : Nat) : Int) - 1)])

theorem above_l2 (op : Int) (ps : List (List S53)) (out : List S53) (roots : List Int) (i j from_ : Nat) (hi : i < ps.length) (hj : j < (ps.getD i []).length) (ho : out.length ≤ 1000000) (R : List S53) (x : S53) (hx : (ps.getD i []).getD j z53 = x) (hk : x.f3.length ≤ 1000) (hj6 : j ≤ 1000000) :
    ∀ (d q : Nat) (acc : List Int), q + d = x.f3.length → acc.length = q →
      EvS (fun k => observatorylaw23_above.l1 k op ps (out ++ [⟨x.f0, x.f1, x.f2, acc ++ (x.f3.drop q).map fun k => wrap64 (k + from_)⟩]) roots i from_ ((j + 1 : Nat) : Int)) R →
      EvS (fun k => observatorylaw23_above.l2 k op ps out roots i from_ j q x.f0 x.f1 x.f2 acc) R := by
  intro d
  have h1 : rd_L4 ps (i : Int) = ps.getD i [] := rfl
  have h2 : rd_T53 (ps.getD i []) (j : Int) = x := hx
  induction d with
  | zero =>
    intro q acc hq ha H
    refine H.step (fun k => ?_)
    simp only [observatorylaw23_above.l2]
    rw [h1, h2, if_pos (by omega), if_pos (by omega), if_pos (by omega), if_pos (by omega), if_neg (by omega), if_pos (by omega), wrap_nat j hj6]
    rw [List.drop_eq_nil_of_le (by omega), List.map_nil, List.append_nil]
  | succ d ih =>
    intro q acc hq ha H
    have hql : q < x.f3.length := by omega
    have hdr : x.f3.drop q = x.f3.getD q 0 :: x.f3.drop (q + 1) := by
      rw [List.drop_eq_getElem_cons hql, List.getD_eq_getElem?_getD, List.getElem?_eq_getElem hql]; rfl
    refine (ih (q + 1) (acc ++ [wrap64 (x.f3.getD q 0 + from_)]) (by omega) (by rw [List.length_append, List.length_singleton]; omega) ?_).step (fun k => ?_)
    · rw [hdr, List.map_cons] at H
      rw [List.append_assoc]
      exact H
    · simp only [observatorylaw23_above.l2]
      rw [h1, h2, if_pos (by omega), if_pos (by omega), if_pos (by omega), if_pos (by omega), if_pos (by omega), if_pos (by omega), if_pos (by omega), wrap_nat q (by omega)]
      rfl

theorem wrap_sum (n : Nat) (h : n ≤ 1000000) : wrap64 ((n : Int) - 1) = (n : Int) - 1 := by unfold wrap64; omega
theorem above_l1 (op : Int) (ps : List (List S53)) (roots : List Int) (i from_ : Nat) (hi : i < ps.length) (hi6 : i ≤ 1000000) (hr : roots.length ≤ 1000000) (hp : (ps.getD i []).length ≤ 1000) (hk : ∀ x ∈ ps.getD i [], x.f3.length ≤ 1000) (R : List S53) :
    ∀ (d j : Nat) (out : List S53), j + d = (ps.getD i []).length → out.length + d ≤ 1000000 →
      EvS (fun k => observatorylaw23_above.l0 k op ps (out ++ ((ps.getD i []).drop j).map (movedN from_)) (roots ++ [wrap64 (((out.length + d : Nat) : Int) - 1)]) ((i + 1 : Nat) : Int)) R →
      EvS (fun k => observatorylaw23_above.l1 k op ps out roots i from_ j) R := by
  intro d
  have h1 : rd_L4 ps (i : Int) = ps.getD i [] := rfl
  induction d with
  | zero =>
    intro j out hj ho H
    refine H.step (fun k => ?_)
    simp only [observatorylaw23_above.l1]
    rw [h1, if_pos (by omega), if_pos (by omega), if_neg (by omega), if_pos (by omega), wrap_nat i hi6]
    rw [List.drop_eq_nil_of_le (by omega), List.map_nil, List.append_nil]
    rfl
  | succ d ih =>
    intro j out hj ho H
    have hjl : j < (ps.getD i []).length := by omega
    obtain ⟨x, hx⟩ : ∃ x, (ps.getD i []).getD j z53 = x := ⟨_, rfl⟩
    have hxe : (ps.getD i [])[j]? = some x := by
      rw [List.getD_eq_getElem?_getD (l := ps.getD i []), List.getElem?_eq_getElem hjl] at hx
      rw [List.getElem?_eq_getElem hjl]
      exact congrArg some hx
    have hxm : x ∈ ps.getD i [] := List.mem_of_getElem? hxe
    have hdr : (ps.getD i []).drop j = x :: (ps.getD i []).drop (j + 1) := by
      rw [List.drop_eq_getElem_cons hjl]
      rw [List.getElem?_eq_getElem hjl] at hxe
      injection hxe with hxe
      rw [hxe]
    refine (above_l2 op ps out roots i j from_ hi hjl (by omega) R x hx (hk x hxm) (by omega) x.f3.length 0 [] (by omega) rfl ?_).step (fun k => ?_)
    · rw [List.drop_zero, List.nil_append]
      refine ih (j + 1) (out ++ [⟨x.f0, x.f1, x.f2, x.f3.map fun k => wrap64 (k + from_)⟩]) (by omega) (by rw [List.length_append, List.length_singleton]; omega) ?_
      rw [hdr, List.map_cons] at H
      rw [List.append_assoc, List.length_append, List.length_singleton, show out.length + 1 + d = out.length + (d + 1) by omega]
      exact H
    · have h2 : rd_T53 (ps.getD i []) (j : Int) = x := hx
      simp only [observatorylaw23_above.l1]
      rw [h1, h2, if_pos (by omega), if_pos (by omega), if_pos (by omega), if_pos (by omega)]
      rfl
theorem above_l0 (op : Int) (ps : List (List S53)) (hn : ps.length ≤ 10) (hp : ∀ p ∈ ps, p.length ≤ 1000) (hk : ∀ p ∈ ps, ∀ x ∈ p, x.f3.length ≤ 1000) :
    ∀ (d i : Nat) (out : List S53) (roots : List Int), i + d = ps.length → out.length ≤ 1000 * i → roots.length = i →
      EvS (fun k => observatorylaw23_above.l0 k op ps out roots i) (aboveL op (ps.drop i) out roots) := by
  intro d
  induction d with
  | zero =>
    intro i out roots hi ho hr
    refine EvS.some (fun k => ?_)
    simp only [observatorylaw23_above.l0]
    rw [if_neg (by omega), if_pos (by omega), List.drop_eq_nil_of_le (by omega)]
    rfl
  | succ d ih =>
    intro i out roots hi ho hr
    have hil : i < ps.length := by omega
    have hdr : ps.drop i = ps.getD i [] :: ps.drop (i + 1) := by
      rw [List.drop_eq_getElem_cons hil, List.getD_eq_getElem?_getD, List.getElem?_eq_getElem hil]; rfl
    have hmem : ps.getD i [] ∈ ps := by rw [List.getD_eq_getElem?_getD, List.getElem?_eq_getElem hil]; exact List.getElem_mem hil
    rw [hdr]
    have hpl := hp _ hmem
    refine (above_l1 op ps roots i out.length hil (by omega) (by omega) hpl (hk _ hmem) _ (ps.getD i []).length 0 out (by omega) (by omega) ?_).step (fun k => ?_)
    · rw [List.drop_zero]
      exact ih (i + 1) _ _ (by omega) (by rw [List.length_append, List.length_map]; omega) (by rw [List.length_append, List.length_singleton]; omega)
    · simp only [observatorylaw23_above.l0]
      rw [if_pos (by omega)]
      rfl
/-- What above answers. -/
theorem above_some (op : Int) (ps : List (List S53)) (hn : ps.length ≤ 10) (hp : ∀ p ∈ ps, p.length ≤ 1000) (hk : ∀ p ∈ ps, ∀ x ∈ p, x.f3.length ≤ 1000) : ∃ k, observatorylaw23_above.f k op ps = some (aboveL op ps [] []) := by
  have h := above_l0 op ps hn hp hk ps.length 0 [] [] (by omega) (by simp) rfl
  rw [List.drop_zero] at h
  exact h.at
theorem moved_index (a s m : Nat) (h : a + s + m ≤ 1000000) : wrap64 ((((a + s : Nat) : Int) - 1) + m) = ((a + m + s : Nat) : Int) - 1 := by unfold wrap64; omega
theorem flat_moved : ∀ (t : T) (a m : Nat), a + t.size + m ≤ 1000000 → (t.flat a).map (movedN m) = t.flat (a + m)
  | .num n, a, m, _ => rfl
  | .name s, a, m, _ => rfl
  | .neg x, a, m, h => by
    simp only [T.size] at h
    simp only [T.flat, List.map_append, List.map_cons, List.map_nil]
    rw [flat_moved x a m (by omega)]
    unfold movedN
    simp only [List.map_cons, List.map_nil]
    rw [moved_index a x.size m (by omega)]
  | .bin op x y, a, m, h => by
    simp only [T.size] at h
    simp only [T.flat, List.map_append, List.map_cons, List.map_nil]
    rw [flat_moved x a m (by omega), flat_moved y (a + x.size) m (by omega)]
    unfold movedN
    simp only [List.map_cons, List.map_nil]
    rw [moved_index a x.size m (by omega), moved_index (a + x.size) y.size m (by omega), show a + x.size + m = a + m + x.size by omega]
  | .ite x y z, a, m, h => by
    simp only [T.size] at h
    simp only [T.flat, List.map_append, List.map_cons, List.map_nil]
    rw [flat_moved x a m (by omega), flat_moved y (a + x.size) m (by omega), flat_moved z (a + x.size + y.size) m (by omega)]
    unfold movedN
    simp only [List.map_cons, List.map_nil]
    rw [moved_index a x.size m (by omega), moved_index (a + x.size) y.size m (by omega), moved_index (a + x.size + y.size) z.size m (by omega), show a + x.size + m = a + m + x.size by omega, show a + m + x.size + y.size = a + m + x.size + y.size by omega, show a + x.size + y.size + m = a + m + x.size + y.size by omega]
theorem above_bin (op : Int) (a b : T) (ha : a.size ≤ 1000) (hb : b.size ≤ 1000) : aboveL op [a.flat 0, b.flat 0] [] [] = (T.bin op a b).flat 0 := by
  simp only [aboveL, List.nil_append, List.length_nil, List.length_map, T.flat_len, Nat.zero_add]
  rw [flat_moved a 0 0 (by omega), flat_moved b 0 a.size (by omega), wrap_sum _ (by omega), wrap_sum _ (by omega)]
  simp only [T.flat, Nat.zero_add, List.append_assoc, List.singleton_append]
theorem above_ite (a b c : T) (ha : a.size ≤ 1000) (hb : b.size ≤ 1000) (hc : c.size ≤ 1000) : aboveL 9 [a.flat 0, b.flat 0, c.flat 0] [] [] = (T.ite a b c).flat 0 := by
  simp only [aboveL, List.nil_append, List.length_nil, List.length_map, List.length_append, T.flat_len, Nat.zero_add]
  rw [flat_moved a 0 0 (by omega), flat_moved b 0 a.size (by omega), flat_moved c 0 (a.size + b.size) (by omega), wrap_sum _ (by omega), wrap_sum _ (by omega), wrap_sum _ (by omega)]
  simp only [T.flat, Nat.zero_add, List.append_assoc, List.singleton_append]
  rfl
end Go.Proofs.YtenecpmonodjaaaDoor.PAll

/- few (of the laws of layer 23): it answers, and what follows where it answers true. -/
namespace Go.Proofs.YtenecpmonodjaaaDoor.PAll
open Go.RowKit Go.Proofs.YtenecpmonodjaaaDoorW.PrintWords Go.Proofs.YtenecpmonodjaaaDoorW.PrintLast Go.Proofs.YtenecpmonodjaaaDoorW.PrintMore
open Go.Proofs.YtenecpmonodjaaaDoor.Obs
set_option linter.unusedVariables false
set_option linter.unusedSimpArgs false

theorem few21_l0 (xs : List S53) : ∀ (d i : Nat), i + d = min xs.length 310 →
    ∃ r, EvS (fun k => observatoryref21_Few.l0 k xs i) r ∧ (r = true → xs.length ≤ 310 ∧ ∀ x ∈ xs.drop i, x.f3.length ≤ 4) := by
  intro d
  induction d with
  | zero =>
    intro i hi
    refine ⟨if (xs.length : Int) ≤ 60 then true else if (xs.length : Int) > 298 then decide ((xs.length : Int) ≤ 310) else false, ?_, ?_⟩
    · have key : ∀ k, observatoryref21_Few.j1 (k + 1) xs i false = some (if (xs.length : Int) ≤ 60 then true else if (xs.length : Int) > 298 then decide ((xs.length : Int) ≤ 310) else false) := by
        intro k
        simp only [observatoryref21_Few.j1]
        rw [if_neg (by decide)]
        (repeat' split) <;> rfl
      refine EvS.step (h := fun k => observatoryref21_Few.j1 k xs i false) (fun k => ?_) (EvS.some key)
      simp only [observatoryref21_Few.l0]
      by_cases h : (i : Int) < xs.length
      · rw [if_pos h, decide_eq_false (by omega)]
      · rw [if_neg h]
    · intro h
      have h3 : xs.length ≤ 310 := by
        split at h
        · omega
        · split at h
          · have := of_decide_eq_true h; omega
          · cases h
      refine ⟨h3, fun x hx => ?_⟩
      rw [List.drop_eq_nil_of_le (by omega)] at hx
      cases hx
  | succ d ih =>
    intro i hi
    have hil : i < xs.length := by omega
    obtain ⟨x, hx⟩ : ∃ x, rd_T53 xs (i : Int) = x := ⟨_, rfl⟩
    have hxe : xs[i] = x := by
      rw [← hx]
      show _ = xs.getD i z53
      rw [List.getD_eq_getElem?_getD, List.getElem?_eq_getElem hil]; rfl
    have hdr : xs.drop i = x :: xs.drop (i + 1) := by rw [List.drop_eq_getElem_cons hil, hxe]
    have step : ∀ k, observatoryref21_Few.l0 (k + 1) xs i = observatoryref21_Few.j1 k xs i true := by
      intro k
      simp only [observatoryref21_Few.l0]
      rw [if_pos (by omega), decide_eq_true (by omega)]
    have step2 : ∀ k, observatoryref21_Few.j1 (k + 1) xs i true = if (x.f3.length : Int) > 4 then some false else if (x.f2.size : Int) > 30 then some false else observatoryref21_Few.l0 k xs ((i + 1 : Nat) : Int) := by
      intro k
      simp only [observatoryref21_Few.j1]
      rw [if_pos trivial, if_pos (by omega), if_pos (by omega), hx, wrap_nat i (by omega)]
    by_cases h1 : (x.f3.length : Int) > 4
    · refine ⟨false, EvS.step (h := fun k => observatoryref21_Few.j1 k xs i true) step (EvS.some (fun k => ?_)), fun h => by cases h⟩
      rw [step2, if_pos h1]
    · by_cases h2 : (x.f2.size : Int) > 30
      · refine ⟨false, EvS.step (h := fun k => observatoryref21_Few.j1 k xs i true) step (EvS.some (fun k => ?_)), fun h => by cases h⟩
        rw [step2, if_neg h1, if_pos h2]
      · obtain ⟨r, hr, hf⟩ := ih (i + 1) (by omega)
        refine ⟨r, EvS.step (h := fun k => observatoryref21_Few.j1 k xs i true) step (EvS.step (h := fun k => observatoryref21_Few.l0 k xs ((i + 1 : Nat) : Int)) (fun k => ?_) hr), fun h => ⟨(hf h).1, fun y hy => ?_⟩⟩
        · rw [step2, if_neg h1, if_neg h2]
        · rw [hdr] at hy
          rcases List.mem_cons.1 hy with rfl | hy
          · omega
          · exact (hf h).2 y hy
theorem few23_l0 (xs : List S53) (l : List S44) : ∀ (d i : Nat), i + d = min l.length 12 →
    ∃ r, EvS (fun k => observatoryref23_Few.l0 k xs l i) r ∧ (r = true → l.length ≤ 12 ∧ xs.length ≤ 310 ∧ ∀ x ∈ xs, x.f3.length ≤ 4) := by
  intro d
  induction d with
  | zero =>
    intro i hi
    obtain ⟨r, ⟨K, hK⟩, hf⟩ := few21_l0 xs (min xs.length 310) 0 (by omega)
    have h0 : ∀ k, K ≤ k → observatoryref21_Few.f k xs = some r := hK
    have step : ∀ k, observatoryref23_Few.l0 (k + 1) xs l i = observatoryref23_Few.j1 k xs l i false := by
      intro k
      simp only [observatoryref23_Few.l0]
      by_cases h : (i : Int) < l.length
      · rw [if_pos h, decide_eq_false (by omega)]
      · rw [if_neg h]
    refine ⟨r && decide ((l.length : Int) ≤ 12), EvS.step step ⟨K + 1, fun k hk => ?_⟩, fun h => ?_⟩
    · obtain ⟨m, rfl⟩ : ∃ m, k = m + 1 := ⟨k - 1, by omega⟩
      simp only [observatoryref23_Few.j1]
      rw [if_neg (by decide), h0 m (by omega)]
      cases r <;> simp
    · rw [Bool.and_eq_true] at h
      obtain ⟨h1, h2⟩ := hf h.1
      exact ⟨by have := of_decide_eq_true h.2; omega, h1, by rw [List.drop_zero] at h2; exact h2⟩
  | succ d ih =>
    intro i hi
    have step : ∀ k, observatoryref23_Few.l0 (k + 1) xs l i = observatoryref23_Few.j1 k xs l i true := by
      intro k
      simp only [observatoryref23_Few.l0]
      rw [if_pos (by omega), decide_eq_true (by omega)]
    have step2 : ∀ k, observatoryref23_Few.j1 (k + 1) xs l i true = if ((rd_T44 l i).f0.size : Int) > 40 then some false else observatoryref23_Few.l0 k xs l ((i + 1 : Nat) : Int) := by
      intro k
      simp only [observatoryref23_Few.j1]
      rw [if_pos trivial, if_pos (by omega), if_pos (by omega), wrap_nat i (by omega)]
    by_cases h1 : ((rd_T44 l i).f0.size : Int) > 40
    · refine ⟨false, EvS.step (h := fun k => observatoryref23_Few.j1 k xs l i true) step (EvS.some (fun k => ?_)), fun h => by cases h⟩
      rw [step2, if_pos h1]
    · obtain ⟨r, hr, hf⟩ := ih (i + 1) (by omega)
      refine ⟨r, EvS.step (h := fun k => observatoryref23_Few.j1 k xs l i true) step (EvS.step (h := fun k => observatoryref23_Few.l0 k xs l ((i + 1 : Nat) : Int)) (fun k => ?_) hr), hf⟩
      rw [step2, if_neg h1]
theorem few_some (xs : List S53) (l : List S44) : ∃ k r, observatorylaw23_few.f k xs l = some r ∧ (r = true → l.length ≤ 12 ∧ xs.length ≤ 310 ∧ ∀ x ∈ xs, x.f3.length ≤ 4) := by
  obtain ⟨r, hr, hf⟩ := few23_l0 xs l (min l.length 12) 0 (by omega)
  obtain ⟨k, hk⟩ := hr.at
  refine ⟨k, r, ?_, hf⟩
  unfold observatorylaw23_few.f
  have : observatoryref23_Few.f k xs l = some r := hk
  rw [this]
  rfl
def FewP (xs : List S53) (l : List S44) (w : World) (e : Ending) (w' : World) : Prop :=
  ∃ r, e = .returned (.bool r) ∧ (r = true → l.length ≤ 12 ∧ xs.length ≤ 310 ∧ ∀ x ∈ xs, x.f3.length ≤ 4) ∧ Below w.heap.size w w'
theorem few_calls (A0 : Option Addr) (c0 : Nat) (l0 : List S53) (A1 : Option Addr) (c1 : Nat) (l1 : List S44) (w : World) (hr0 : Kd.C k53 w A0 l0.length l0) (hc0 : l0.length ≤ c0) (hr1 : Kd.C k44 w A1 l1.length l1) (hc1 : l1.length ≤ c1) :
    Calls Tryd.prog 8 #[.slice A0 l0.length c0, .slice A1 l1.length c1] w (FewP l0 l1 w) := by
  obtain ⟨k, r, h, hf⟩ := few_some l0 l1
  refine (observatorylaw23_few.calls k A0 c0 l0 A1 c1 l1 r w hr0 hc0 hr1 hc1 h).mono ?_
  rintro e w' ⟨rfl, ⟨nd, rfl⟩⟩
  exact ⟨r, rfl, hf, pw_below_drewN (Below.refl _ _) nd⟩
theorem few_none (A0 : Option Addr) (c0 : Nat) (l0 : List S53) (w : World) (hr0 : Kd.C k53 w A0 l0.length l0) (hc0 : l0.length ≤ c0) :
    Calls Tryd.prog 8 #[.slice A0 l0.length c0, .slice none 0 0] w (FewP l0 [] w) :=
  few_calls A0 c0 l0 none 0 [] w hr0 hc0 (vars_none w) (Nat.le_refl _)
end Go.Proofs.YtenecpmonodjaaaDoor.PAll
