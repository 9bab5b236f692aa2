/- Which texts are names: in Lean alone. -/
import Derived.Test.YtenecpmonodjaaaGreatDoorHEval
import Derived.Test.YtenecpmonodjaaaGreatDoorHValid
namespace Go.Proofs.YtenecpmonodjaaaGreatDoor.PAll
open Go.RowKit Go.Proofs.YtenecpmonodjaaaGreatDoorW.PrintWords Go.Proofs.YtenecpmonodjaaaGreatDoorW.PrintLast Go.Proofs.YtenecpmonodjaaaGreatDoorW.PrintMore
open Go.Proofs.YtenecpmonodjaaaGreatDoor.Obs
set_option linter.unusedVariables false
set_option linter.unusedSimpArgs false

/-- A letter, then at most 23 letters, digits, underscores. -/
def nameOk : List UInt8 → Bool
  | [] => false
  | c :: r => isLetter c && r.all isWord && decide (r.length ≤ 23)
theorem tokL_one (l : List UInt8) (t : List UInt8) (n : Int) (w : Nat) (h : tokL l = .ok 1 t n w) : ∃ c r, l = c :: r ∧ isLetter c = true ∧ t = c :: r.takeWhile isWord ∧ (c :: r.takeWhile isWord).length ≤ 24 := by
  cases l with
  | nil => cases h
  | cons c r =>
    refine ⟨c, r, rfl, ?_⟩
    simp only [tokL] at h
    by_cases hc : isLetter c = true
    · rw [if_pos hc] at h
      split at h
      · cases h
      · rename_i hl
        injection h with h1 h2 h3 h4
        exact ⟨hc, h2.symm, by omega⟩
    · rw [if_neg hc] at h
      exfalso
      (repeat' split at h) <;> first | (injection h with h1; exact absurd h1 (by decide)) | cases h
theorem takeWhile_all {p : UInt8 → Bool} : ∀ l : List UInt8, (l.takeWhile p).all p = true
  | [] => rfl
  | c :: r => by
    rw [List.takeWhile_cons]
    split
    · rename_i h; rw [List.all_cons, h, takeWhile_all r]; rfl
    · rfl
theorem takeWhile_id {p : UInt8 → Bool} : ∀ l : List UInt8, l.all p = true → l.takeWhile p = l
  | [], _ => rfl
  | c :: r, h => by
    rw [List.all_cons, Bool.and_eq_true] at h
    rw [List.takeWhile_cons, if_pos h.1, takeWhile_id r h.2]
theorem letter_gap (c : UInt8) (r : List UInt8) (h : isLetter c = true) : gapL false (c :: r) = 0 := by
  have h1 : 65 ≤ c.toNat := by
    unfold isLetter at h
    simp only [Bool.or_eq_true, Bool.and_eq_true, decide_eq_true_eq] at h
    omega
  have hb : isBlank c = false := by
    unfold isBlank
    simp only [Bool.or_eq_false_iff, beq_eq_false_iff_ne]
    omega
  unfold gapL
  rw [hb, if_neg (by decide), if_neg (by omega)]
theorem lex_name (s : List UInt8) (h : nameOk s = true) : lex s = .ok [⟨1, s, 0, 0⟩] := by
  cases s with
  | nil => cases h
  | cons c r =>
    unfold nameOk at h
    rw [Bool.and_eq_true, Bool.and_eq_true] at h
    obtain ⟨⟨hc, hr⟩, hl⟩ := h
    have hl := of_decide_eq_true hl
    have ht := takeWhile_id r hr
    unfold lex
    rw [letter_gap c r hc, if_neg (by rw [List.length_cons]; omega), List.drop_zero, lexAt_succ _ _ _ _ (by simp)]
    have htok : tokL (c :: r) = .ok 1 (c :: r) 0 (c :: r).length := by
      simp only [tokL]
      rw [if_pos hc, ht, if_neg (by rw [List.length_cons]; omega)]
    rw [htok]
    simp only
    rw [if_neg (by decide), List.drop_length]
    have : (List.drop (gapL false []) ([] : List UInt8)) = [] := rfl
    rw [this, List.length_cons, lexAt]
    rfl
theorem lex_one (s : List UInt8) (t : Tok) (h : lex s = .ok [t]) (hk : t.k = 1) (ht : t.t = s) : nameOk s = true := by
  unfold lex at h
  split at h
  · cases h
  · have hne : s.drop (gapL false s) ≠ [] := by
      intro h0
      rw [h0, lexAt] at h
      injection h with h
      cases h
    rw [lexAt_succ _ _ _ _ hne] at h
    cases hq : tokL (s.drop (gapL false s)) with
    | bad e => rw [hq] at h; cases h
    | ok k t' n w =>
      rw [hq] at h
      simp only at h
      rw [if_neg (by decide)] at h
      obtain ⟨l', h1, h2⟩ := cons_ok h
      injection h2 with h2 h3
      subst h2
      simp only at hk ht
      subst hk
      obtain ⟨c, r, e1, e2, e3, e4⟩ := tokL_one _ _ _ _ hq
      rw [← ht, e3]
      simp only [nameOk]
      rw [e2, takeWhile_all, Bool.true_and, Bool.true_and]
      rw [List.length_cons] at e4
      exact decide_eq_true (by omega)
theorem identV_name (s : List UInt8) : identV s = nameOk s := by
  cases hn : nameOk s with
  | true =>
    unfold identV
    rw [lex_name s hn]
    simp
  | false =>
    cases hi : identV s with
    | false => rfl
    | true =>
      exfalso
      unfold identV at hi
      split at hi
      · rename_i t ht
        rw [Bool.and_eq_true, beq_iff_eq, beq_iff_eq] at hi
        rw [lex_one s t ht hi.1 hi.2] at hn
        cases hn
      · cases hi
theorem identL_name (s : List UInt8) : identL s = (nameOk s && (lookM functionsL s).isNone) := by
  have h : identL s = (identV s && (lookM functionsL s).isNone) := by
    unfold identL identV identOk
    cases lex s with
    | bad e a => rfl
    | ok l =>
      match l with
      | [] => rfl
      | _ :: _ :: _ => rfl
      | [t] => rfl
  rw [h, identV_name]
end Go.Proofs.YtenecpmonodjaaaGreatDoor.PAll
