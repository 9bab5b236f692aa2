/- The value of an expression, told along its tree: in Lean alone. -/
import Derived.Test.YtenecpmonodjaaaGreatDoorHEval
import Derived.Test.YtenecpmonodjaaaGreatDoorHValid
namespace Go.Proofs.YtenecpmonodjaaaGreatDoor.PAll
open Go.RowKit Go.Proofs.YtenecpmonodjaaaGreatDoorW.PrintWords Go.Proofs.YtenecpmonodjaaaGreatDoorW.PrintLast Go.Proofs.YtenecpmonodjaaaGreatDoorW.PrintMore
open Go.Proofs.YtenecpmonodjaaaGreatDoor.Obs
set_option linter.unusedVariables false
set_option linter.unusedSimpArgs false

def outE (v : Int) : Int := if outB v = true then 9 else 0
/-- The value (whatever it is where there is an error). -/
def vT (m : List (List UInt8 × Int)) : T → Int
  | .num n => n
  | .name s => (lookM m s.data.toList).getD 0
  | .neg a => applyZ 12 [vT m a]
  | .bin op a b => applyZ op [vT m a, vT m b]
  | .ite a b c => applyZ 9 [vT m a, vT m b, vT m c]
/-- The first error; 0 for none. -/
def eT (m : List (List UInt8 × Int)) : T → Int
  | .num n => outE n
  | .name s => match lookM m s.data.toList with
    | none => 7
    | some v => outE v
  | .neg a => if eT m a = 0 then outE (vT m (.neg a)) else eT m a
  | .bin op a b => if eT m a = 0 then (if eT m b = 0 then outE (vT m (.bin op a b)) else eT m b) else eT m a
  | .ite a b c => if eT m a = 0 then (if eT m b = 0 then (if eT m c = 0 then outE (vT m (.ite a b c)) else eT m c) else eT m b) else eT m a
/-- The values of all nodes. -/
def allT (m : List (List UInt8 × Int)) : T → List Int
  | .num n => [n]
  | .name s => [vT m (.name s)]
  | .neg a => allT m a ++ [vT m (.neg a)]
  | .bin op a b => allT m a ++ (allT m b ++ [vT m (.bin op a b)])
  | .ite a b c => allT m a ++ (allT m b ++ (allT m c ++ [vT m (.ite a b c)]))
theorem allT_len (m : List (List UInt8 × Int)) : ∀ t : T, (allT m t).length = t.size
  | .num _ => rfl
  | .name _ => rfl
  | .neg a => by simp [allT, T.size, allT_len m a]
  | .bin _ a b => by simp [allT, T.size, allT_len m a, allT_len m b]; omega
  | .ite a b c => by simp [allT, T.size, allT_len m a, allT_len m b, allT_len m c]; omega
theorem allT_last (m : List (List UInt8 × Int)) (t : T) : ∃ l, allT m t = l ++ [vT m t] := by
  cases t with
  | num n => exact ⟨[], rfl⟩
  | name s => exact ⟨[], rfl⟩
  | neg a => exact ⟨allT m a, rfl⟩
  | bin op a b => exact ⟨allT m a ++ allT m b, by simp [allT]⟩
  | ite a b c => exact ⟨allT m a ++ (allT m b ++ allT m c), by simp [allT]⟩
/-- The value that an operand's index leads to. -/
theorem at_last (m : List (List UInt8 × Int)) (t : T) (pre post : List Int) (i : Nat) (hi : i = pre.length + t.size) : (pre ++ (allT m t ++ post)).getD (((i : Nat) : Int) - 1).toNat 0 = vT m t := by
  obtain ⟨l, hl⟩ := allT_last m t
  have h1 := allT_len m t
  rw [hl, List.length_append, List.length_singleton] at h1
  rw [hl, show (((i : Nat) : Int) - 1).toNat = pre.length + l.length by omega]
  rw [List.append_assoc, ← List.append_assoc, List.getD_eq_getElem?_getD, List.getElem?_append_right (by rw [List.length_append]; exact Nat.le_refl _), List.length_append, Nat.sub_self]
  rfl
theorem outE_zero {v : Int} (h : outE v = 0) : outB v = false := by
  unfold outE at h
  cases hv : outB v with
  | false => rfl
  | true => rw [hv] at h; exact absurd h (by decide)
theorem evalGo_out (m : List (List UInt8 × Int)) (r : List S57) (found : List Int) (v : Int) : (if outB v = true then ((0 : Int), (9 : Int)) else evalGo m r (found ++ [v]) v) = if outE v = 0 then evalGo m r (found ++ [v]) v else (0, outE v) := by
  unfold outE
  cases outB v <;> rfl
theorem bin_ne {op : Int} (h : opsZ op = 2) : op ≠ 1 ∧ op ≠ 2 := by rcases ops_cases op with h' | h' | h' | h' | h' <;> omega
theorem eval_flat (m : List (List UInt8 × Int)) : ∀ (t : T) (base : Nat) (found : List Int) (rest : List S57) (last : Int), t.ok → found.length = base →
    evalGo m (t.flat base ++ rest) found last = if eT m t = 0 then evalGo m rest (found ++ allT m t) (vT m t) else (0, eT m t)
  | .num n, base, found, rest, last, ho, hf => by
    show evalGo m (_ :: rest) found last = _
    rw [evalGo_cons, if_pos rfl, evalGo_out]
    rfl
  | .name s, base, found, rest, last, ho, hf => by
    show evalGo m (_ :: rest) found last = _
    rw [evalGo_cons, if_neg (show ¬ (2 : Int) = 1 by decide), if_pos rfl]
    cases hq : lookM m s.data.toList with
    | none =>
      have h1 : eT m (.name s) = 7 := by simp only [eT, hq]
      rw [h1, if_neg (by decide)]
    | some v =>
      have h1 : eT m (.name s) = outE v := by simp only [eT, hq]
      have h2 : vT m (.name s) = v := by simp only [vT, hq]; rfl
      have h3 : allT m (.name s) = [v] := by simp only [allT, h2]
      rw [h1, h2, h3]
      exact evalGo_out m rest found v
  | .neg a, base, found, rest, last, ho, hf => by
    simp only [T.flat, List.append_assoc, List.singleton_append]
    rw [eval_flat m a base found _ last ho hf]
    by_cases ha : eT m a = 0
    · have h1 : eT m (.neg a) = outE (vT m (.neg a)) := by simp only [eT]; rw [if_pos ha]
      rw [if_pos ha, evalGo_cons, if_neg (show ¬ (12 : Int) = 1 by decide), if_neg (show ¬ (12 : Int) = 2 by decide), h1]
      have hk : kidsV (found ++ allT m a) [((base + a.size : Nat) : Int) - 1] = [vT m a] := by
        unfold kidsV
        have := at_last m a found [] (base + a.size) (by omega)
        rw [List.append_nil] at this
        simp only [List.map_cons, List.map_nil, this]
      simp only [hk]
      rw [evalGo_out]
      simp only [allT, List.append_assoc]
      rfl
    · have h1 : eT m (.neg a) = eT m a := by simp only [eT]; rw [if_neg ha]
      rw [if_neg ha, h1, if_neg ha]
  | .bin op a b, base, found, rest, last, ho, hf => by
    simp only [T.flat, List.append_assoc, List.singleton_append]
    rw [eval_flat m a base found _ last ho.2.1 hf]
    by_cases ha : eT m a = 0
    · rw [if_pos ha, eval_flat m b (base + a.size) (found ++ allT m a) _ _ ho.2.2 (by rw [List.length_append, allT_len]; omega)]
      by_cases hb : eT m b = 0
      · have h1 : eT m (.bin op a b) = outE (vT m (.bin op a b)) := by simp only [eT]; rw [if_pos ha, if_pos hb]
        have hne := bin_ne ho.1
        rw [if_pos hb, evalGo_cons, if_neg hne.1, if_neg hne.2, h1]
        have hk : kidsV (found ++ allT m a ++ allT m b) [((base + a.size : Nat) : Int) - 1, ((base + a.size + b.size : Nat) : Int) - 1] = [vT m a, vT m b] := by
          unfold kidsV
          have k1 := at_last m a found (allT m b) (base + a.size) (by omega)
          have k2 := at_last m b (found ++ allT m a) [] (base + a.size + b.size) (by rw [List.length_append, allT_len]; omega)
          rw [List.append_nil] at k2
          rw [← List.append_assoc] at k1
          simp only [List.map_cons, List.map_nil, k1, k2]
        simp only [hk]
        rw [evalGo_out]
        simp only [allT, List.append_assoc]
        rfl
      · have h1 : eT m (.bin op a b) = eT m b := by simp only [eT]; rw [if_pos ha, if_neg hb]
        rw [if_neg hb, h1, if_neg hb]
    · have h1 : eT m (.bin op a b) = eT m a := by simp only [eT]; rw [if_neg ha]
      rw [if_neg ha, h1, if_neg ha]
  | .ite a b c, base, found, rest, last, ho, hf => by
    simp only [T.flat, List.append_assoc, List.singleton_append]
    rw [eval_flat m a base found _ last ho.1 hf]
    by_cases ha : eT m a = 0
    · rw [if_pos ha, eval_flat m b (base + a.size) (found ++ allT m a) _ _ ho.2.1 (by rw [List.length_append, allT_len]; omega)]
      by_cases hb : eT m b = 0
      · rw [if_pos hb, eval_flat m c (base + a.size + b.size) (found ++ allT m a ++ allT m b) _ _ ho.2.2 (by rw [List.length_append, List.length_append, allT_len, allT_len]; omega)]
        by_cases hc : eT m c = 0
        · have h1 : eT m (.ite a b c) = outE (vT m (.ite a b c)) := by simp only [eT]; rw [if_pos ha, if_pos hb, if_pos hc]
          rw [if_pos hc, evalGo_cons, if_neg (show ¬ (9 : Int) = 1 by decide), if_neg (show ¬ (9 : Int) = 2 by decide), h1]
          have hk : kidsV (found ++ allT m a ++ allT m b ++ allT m c) [((base + a.size : Nat) : Int) - 1, ((base + a.size + b.size : Nat) : Int) - 1, ((base + a.size + b.size + c.size : Nat) : Int) - 1] = [vT m a, vT m b, vT m c] := by
            unfold kidsV
            have k1 := at_last m a found (allT m b ++ allT m c) (base + a.size) (by omega)
            have k2 := at_last m b (found ++ allT m a) (allT m c) (base + a.size + b.size) (by rw [List.length_append, allT_len]; omega)
            have k3 := at_last m c (found ++ allT m a ++ allT m b) [] (base + a.size + b.size + c.size) (by rw [List.length_append, List.length_append, allT_len, allT_len]; omega)
            rw [List.append_nil] at k3
            rw [← List.append_assoc] at k2
            rw [← List.append_assoc, ← List.append_assoc] at k1
            simp only [List.map_cons, List.map_nil, k1, k2, k3]
          simp only [hk]
          rw [evalGo_out]
          simp only [allT, List.append_assoc]
          rfl
        · have h1 : eT m (.ite a b c) = eT m c := by simp only [eT]; rw [if_pos ha, if_pos hb, if_neg hc]
          rw [if_neg hc, h1, if_neg hc]
      · have h1 : eT m (.ite a b c) = eT m b := by simp only [eT]; rw [if_pos ha, if_neg hb]
        rw [if_neg hb, h1, if_neg hb]
    · have h1 : eT m (.ite a b c) = eT m a := by simp only [eT]; rw [if_neg ha]
      rw [if_neg ha, h1, if_neg ha]
/-- What Eval answers at a tree. -/
theorem evalX_tree (t : T) (l : List S36) (m : List (List UInt8 × Int)) (hm : valsM l [] = some m) (ho : t.ok) (hv : validX (t.flat 0) = true) : evalX (t.flat 0) l = if eT m t = 0 then (vT m t, 0) else (0, eT m t) := by
  unfold evalX
  rw [hm]
  show (if validX (t.flat 0) = true then _ else _) = _
  rw [if_pos hv]
  have := eval_flat m t 0 [] [] 0 ho rfl
  rw [List.append_nil] at this
  rw [this]
  rfl
theorem eT_codes (m : List (List UInt8 × Int)) : ∀ t : T, eT m t = 0 ∨ eT m t = 7 ∨ eT m t = 9
  | .num n => by simp only [eT, outE]; split <;> omega
  | .name s => by
    simp only [eT]
    cases lookM m s.data.toList with
    | none => exact .inr (.inl rfl)
    | some v => simp only [outE]; split <;> omega
  | .neg a => by have := eT_codes m a; simp only [eT, outE]; (repeat' split) <;> omega
  | .bin op a b => by have := eT_codes m a; have := eT_codes m b; simp only [eT, outE]; (repeat' split) <;> omega
  | .ite a b c => by have := eT_codes m a; have := eT_codes m b; have := eT_codes m c; simp only [eT, outE]; (repeat' split) <;> omega
/-- A value without an error lies in the range. -/
theorem vT_in (m : List (List UInt8 × Int)) (t : T) (h : eT m t = 0) : outB (vT m t) = false := by
  cases t with
  | num n => exact outE_zero h
  | name s =>
    simp only [eT] at h
    simp only [vT]
    cases hq : lookM m s.data.toList with
    | none => rw [hq] at h; exact absurd h (by decide)
    | some v => rw [hq] at h; exact outE_zero h
  | neg a =>
    simp only [eT] at h
    by_cases ha : eT m a = 0
    · rw [if_pos ha] at h; exact outE_zero h
    · rw [if_neg ha] at h; exact absurd h ha
  | bin op a b =>
    simp only [eT] at h
    by_cases ha : eT m a = 0
    · rw [if_pos ha] at h
      by_cases hb : eT m b = 0
      · rw [if_pos hb] at h; exact outE_zero h
      · rw [if_neg hb] at h; exact absurd h hb
    · rw [if_neg ha] at h; exact absurd h ha
  | ite a b c =>
    simp only [eT] at h
    by_cases ha : eT m a = 0
    · rw [if_pos ha] at h
      by_cases hb : eT m b = 0
      · rw [if_pos hb] at h
        by_cases hc : eT m c = 0
        · rw [if_pos hc] at h; exact outE_zero h
        · rw [if_neg hc] at h; exact absurd h hc
      · rw [if_neg hb] at h; exact absurd h hb
    · rw [if_neg ha] at h; exact absurd h ha
/-- Eval has answered a value: then the variables are valid, and the expression is a tree whose value it is. -/
theorem evalX_ok (xs : List S57) (l : List S36) (v : Int) (h : evalX xs l = (v, 0)) : ∃ m t, valsM l [] = some m ∧ GoodT t ∧ xs = t.flat 0 ∧ eT m t = 0 ∧ vT m t = v := by
  cases hm : valsM l [] with
  | none => unfold evalX at h; rw [hm] at h; injection h with _ h; exact absurd h (by decide)
  | some m =>
    cases hv : validX xs with
    | false =>
      unfold evalX at h
      rw [hm] at h
      have h' : (if validX xs = true then evalGo m xs [] 0 else (0, 1)) = (v, 0) := h
      rw [if_neg (by rw [hv]; decide)] at h'
      injection h' with _ h'
      exact absurd h' (by decide)
    | true =>
      obtain ⟨t, ht, rfl⟩ := (valid_iff xs).1 hv
      rw [evalX_tree t l m hm ht.1 hv] at h
      by_cases he : eT m t = 0
      · rw [if_pos he] at h
        injection h with h _
        exact ⟨m, t, rfl, ht, rfl, he, h⟩
      · rw [if_neg he] at h
        injection h with _ h
        exact absurd h he
end Go.Proofs.YtenecpmonodjaaaGreatDoor.PAll
