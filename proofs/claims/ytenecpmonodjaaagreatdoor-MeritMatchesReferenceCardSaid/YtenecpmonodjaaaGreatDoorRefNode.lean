/- The reference's check of a node answers as the program's: in Lean alone. -/
import Derived.Test.YtenecpmonodjaaaGreatDoorRefNames
import Derived.Test.YtenecpmonodjaaaGreatDoorStack
import Derived.Test.YtenecpmonodjaaaGreatDoorPAllx10
namespace Go.Proofs.YtenecpmonodjaaaGreatDoor.PAll
open Go.RowKit Go.Proofs.YtenecpmonodjaaaGreatDoorW.PrintWords Go.Proofs.YtenecpmonodjaaaGreatDoorW.PrintLast Go.Proofs.YtenecpmonodjaaaGreatDoorW.PrintMore
open Go.Proofs.YtenecpmonodjaaaGreatDoor.Obs
set_option linter.unusedVariables false
set_option linter.unusedSimpArgs false

theorem id21_choice (A : Option Bool) (n z : Int) : (if n ≥ 97 then (if n ≤ 122 then A else (if n ≥ 65 then (if n ≤ 90 then A else (if z = 0 then some false else (if n = 95 then A else (if n < 48 then some false else (if n > 57 then some false else A))))) else (if z = 0 then some false else (if n = 95 then A else (if n < 48 then some false else (if n > 57 then some false else A)))))) else (if n ≥ 65 then (if n ≤ 90 then A else (if z = 0 then some false else (if n = 95 then A else (if n < 48 then some false else (if n > 57 then some false else A))))) else (if z = 0 then some false else (if n = 95 then A else (if n < 48 then some false else (if n > 57 then some false else A)))))) =
    if (97 ≤ n ∧ n ≤ 122) ∨ (65 ≤ n ∧ n ≤ 90) ∨ (z ≠ 0 ∧ (n = 95 ∨ (48 ≤ n ∧ n ≤ 57))) then A else some false := by
  (repeat' split) <;> first | rfl | (exfalso; omega)
def idOk (i : Nat) (c : UInt8) : Bool := if i = 0 then isLetter c else isWord c
theorem idOk_iff (i : Nat) (c : UInt8) : ((97 ≤ (c.toNat : Int) ∧ (c.toNat : Int) ≤ 122) ∨ (65 ≤ (c.toNat : Int) ∧ (c.toNat : Int) ≤ 90) ∨ ((i : Int) ≠ 0 ∧ ((c.toNat : Int) = 95 ∨ (48 ≤ (c.toNat : Int) ∧ (c.toNat : Int) ≤ 57)))) ↔ idOk i c = true := by
  unfold idOk isWord isLetter isDigit
  by_cases h : i = 0
  · rw [if_pos h]
    simp only [Bool.or_eq_true, Bool.and_eq_true, decide_eq_true_eq]
    omega
  · rw [if_neg h]
    simp only [Bool.or_eq_true, Bool.and_eq_true, decide_eq_true_eq, beq_iff_eq]
    omega
/-- All bytes from i on (25 at most) may stand in a name. -/
def idAll (l : List UInt8) (i : Nat) : Nat → Bool
  | 0 => true
  | d + 1 => idOk i (l.getD i 0) && idAll l (i + 1) d
theorem id21_l0 (s : ByteArray) : ∀ (d i : Nat), i + d = min s.size 25 → EvS (fun k => observatoryref21_identifier.l0 k s i) (idAll s.data.toList i d && (decide (1 ≤ s.size) && decide (s.size ≤ 24))) := by
  intro d
  induction d with
  | zero =>
    intro i hi
    have f0 : EvS (fun k => observatoryref21_identifier.j1 k s i false) (idAll s.data.toList i 0 && (decide (1 ≤ s.size) && decide (s.size ≤ 24))) := by
      refine EvS.some (fun k => ?_)
      simp only [observatoryref21_identifier.j1]
      rw [if_neg (by decide)]
      by_cases h1 : 1 ≤ s.size
      · rw [if_pos (by omega), decide_eq_true h1]
        have : decide ((s.size : Int) ≤ 24) = decide (s.size ≤ 24) := decide_eq_decide.2 (by omega)
        rw [this]
        rfl
      · rw [if_neg (by omega), decide_eq_false h1]
        rfl
    refine f0.step (fun k => ?_)
    simp only [observatoryref21_identifier.l0]
    by_cases h : (i : Int) < s.size
    · rw [if_pos h, decide_eq_false (by omega)]
    · rw [if_neg h]
  | succ d ih =>
    intro i hi
    have his : i < s.size := by omega
    have step : ∀ k, observatoryref21_identifier.l0 (k + 1) s i = observatoryref21_identifier.j1 k s i true := by
      intro k
      simp only [observatoryref21_identifier.l0]
      rw [if_pos (by omega), decide_eq_true (by omega)]
    have step2 : ∀ k, observatoryref21_identifier.j1 (k + 1) s i true = if idOk i (s.data.toList.getD i 0) = true then observatoryref21_identifier.l0 k s ((i + 1 : Nat) : Int) else some false := by
      intro k
      simp only [observatoryref21_identifier.j1]
      rw [if_pos trivial, if_pos (by omega), if_pos (by omega), bt_list s i his, wrap_nat i (by omega), id21_choice]
      by_cases hg : idOk i (s.data.toList.getD i 0) = true
      · rw [if_pos hg, if_pos ((idOk_iff _ _).2 hg)]
      · rw [if_neg hg, if_neg (fun h => hg ((idOk_iff _ _).1 h))]
    simp only [idAll]
    cases hg : idOk i (s.data.toList.getD i 0) with
    | true =>
      rw [Bool.true_and]
      exact EvS.step (h := fun k => observatoryref21_identifier.j1 k s i true) step (EvS.step (h := fun k => observatoryref21_identifier.l0 k s ((i + 1 : Nat) : Int)) (fun k => by rw [step2, if_pos hg]) (ih (i + 1) (by omega)))
    | false =>
      exact EvS.step (h := fun k => observatoryref21_identifier.j1 k s i true) step (EvS.some (fun k => by rw [step2, if_neg (by rw [hg]; decide)]; rfl))
theorem idAll_word (l : List UInt8) : ∀ (d i : Nat), 0 < i → i + d = l.length → idAll l i d = (l.drop i).all isWord
  | 0, i, h0, h => by rw [List.drop_eq_nil_of_le (by omega)]; rfl
  | d + 1, i, h0, h => by
    have hil : i < l.length := by omega
    have hdr : l.drop i = l.getD i 0 :: l.drop (i + 1) := by
      rw [List.drop_eq_getElem_cons hil, List.getD_eq_getElem?_getD, List.getElem?_eq_getElem hil]; rfl
    rw [hdr, List.all_cons, ← idAll_word l d (i + 1) (by omega) (by omega)]
    show (idOk i (l.getD i 0) && _) = _
    unfold idOk
    rw [if_neg (by omega)]
theorem id21_name (l : List UInt8) : (idAll l 0 (min l.length 25) && (decide (1 ≤ l.length) && decide (l.length ≤ 24))) = nameOk l := by
  cases l with
  | nil => rfl
  | cons c r =>
    have h2 : nameOk (c :: r) = (isLetter c && r.all isWord && decide (r.length ≤ 23)) := rfl
    have hlen : (c :: r).length = r.length + 1 := rfl
    rw [h2, hlen, decide_eq_true (show 1 ≤ r.length + 1 by omega), Bool.true_and]
    have e : decide (r.length + 1 ≤ 24) = decide (r.length ≤ 23) := decide_eq_decide.2 (by omega)
    rw [e]
    by_cases h : r.length ≤ 23
    · rw [decide_eq_true h, Bool.and_true, Bool.and_true, show min (r.length + 1) 25 = r.length + 1 by omega]
      show (idOk 0 c && idAll (c :: r) 1 r.length) = _
      rw [idAll_word (c :: r) r.length 1 (by omega) (by rw [hlen]; omega)]
      rfl
    · rw [decide_eq_false h, Bool.and_false, Bool.and_false]
theorem id21 (s : ByteArray) : EvS (fun k => observatoryref21_identifier.f k s) (nameOk s.data.toList) := by
  have h := id21_l0 s (min s.size 25) 0 (by omega)
  have e : s.size = s.data.toList.length := rfl
  rw [e, id21_name] at h
  exact h
theorem function21 (s : ByteArray) : observatoryref21_function.f s = some (lookM functionsL s.data.toList).isSome := by
  unfold observatoryref21_function.f functionsL
  rw [ByteArray.toList_eq]
  generalize s.data.toList = l
  simp only [lookM]
  by_cases h1 : l = [109, 105, 110]
  · subst h1; rfl
  · by_cases h2 : l = [109, 97, 120]
    · subst h2; rfl
    · by_cases h3 : l = [105, 102]
      · subst h3; rfl
      · rw [if_neg h1, if_neg h2, beq_eq_false_iff_ne.2 h3, if_neg (show ¬ ([109, 105, 110] : List UInt8) = l from fun h => h1 h.symm), if_neg (show ¬ ([109, 97, 120] : List UInt8) = l from fun h => h2 h.symm), if_neg (show ¬ ([105, 102] : List UInt8) = l from fun h => h3 h.symm)]
        rfl
theorem ops21 (op : Int) : EvS (fun k => observatoryref21_Operands.f k op) (opsZ op) := by
  refine ⟨2, fun k hk => ?_⟩
  obtain ⟨k, rfl⟩ : ∃ m, k = m + 2 := ⟨k - 2, by omega⟩
  show observatoryref21_Operands.f (k + 2) op = some (opsZ op)
  unfold observatoryref21_Operands.f
  simp only [observatoryref21_Operands.j0, observatoryref21_Operands.j1]
  rcases ops_cases op with ⟨h, h' | h'⟩ | ⟨h, h'⟩ | ⟨h, h'⟩ | ⟨h, h' | h' | h' | h' | h' | h' | h' | h'⟩ | h
  · subst h'; rfl
  · subst h'; rfl
  · subst h'; rfl
  · subst h'; rfl
  · subst h'; rfl
  · subst h'; rfl
  · subst h'; rfl
  · subst h'; rfl
  · subst h'; rfl
  · subst h'; rfl
  · subst h'; rfl
  · subst h'; rfl
  · have ne : ∀ n : Int, opsZ n ≠ -1 → op ≠ n := fun n hn he => hn (by rw [← he]; exact h)
    have b1 : op ≠ 1 := ne 1 (by decide)
    have b2 : op ≠ 2 := ne 2 (by decide)
    have b3 : op ≠ 3 := ne 3 (by decide)
    have b4 : op ≠ 4 := ne 4 (by decide)
    have b5 : op ≠ 5 := ne 5 (by decide)
    have b6 : op ≠ 6 := ne 6 (by decide)
    have b7 : op ≠ 7 := ne 7 (by decide)
    have b8 : op ≠ 8 := ne 8 (by decide)
    have b9 : op ≠ 9 := ne 9 (by decide)
    have b10 : op ≠ 10 := ne 10 (by decide)
    have b11 : op ≠ 11 := ne 11 (by decide)
    have b12 : op ≠ 12 := ne 12 (by decide)
    rw [h, if_neg b1, beq_eq_false_iff_ne.2 b2, if_neg (by decide), if_neg b12, if_neg b3, if_neg b4, if_neg b5, if_neg b6, if_neg b7, if_neg b8, if_neg b10, beq_eq_false_iff_ne.2 b11, if_neg (by decide), if_neg b9]
theorem EvS.bind0 {α β : Type} {g : Nat → Option α} {r : α} {f : Nat → Option β} {h : Nat → α → Option β} {q : β} (hg : EvS g r) (hf : ∀ k, f k = (g k).bind fun t => h k t) (hq : EvS (fun k => h k r) q) : EvS f q := by
  obtain ⟨K, hK⟩ := hg
  obtain ⟨L, hL⟩ := hq
  refine ⟨max K L, fun k hk => ?_⟩
  rw [hf, hK k (by omega)]
  exact hL k (by omega)
theorem formed_no {x : S57} (h : ¬ (opsZ x.f0 = x.f3.length ∧ ((x.f0 = 1 ∧ x.f2 = ⟨#[]⟩ ∧ 0 ≤ x.f1 ∧ x.f1 ≤ 1000000) ∨ (x.f0 = 2 ∧ x.f1 = 0 ∧ identL x.f2.data.toList = true) ∨ (x.f0 ≠ 1 ∧ x.f0 ≠ 2 ∧ x.f1 = 0 ∧ x.f2 = ⟨#[]⟩)))) : formedB x = false := by
  cases hb : formedB x with
  | false => rfl
  | true => exact absurd ((formed_iff x).1 hb) h
theorem j0_yes (x : S57) : EvS (fun k => observatoryref21_node.j0 k true x.f0 x.f1 x.f2 x.f3) false := EvS.some (fun k => by simp only [observatoryref21_node.j0]; rw [if_pos trivial])
theorem empty_str (b : ByteArray) : (b.toList != ([] : List UInt8)) = !decide (b = ⟨#[]⟩) := by
  obtain ⟨⟨l⟩⟩ := b
  rw [ByteArray.toList_eq]
  cases l with
  | nil => rfl
  | cons c r =>
    rw [decide_eq_false (fun h => by injection h with h; injection h with h; cases h)]
    rfl
theorem node21 (x : S57) : EvS (fun k => observatoryref21_node.f k x.f0 x.f1 x.f2 x.f3) (formedB x) := by
  refine EvS.bind0 (ops21 x.f0) (h := fun k t => if t = (x.f3.length : Int) then (if x.f0 = 1 then (if x.f0 = 2 then (observatoryref21_node.j0 k false x.f0 x.f1 x.f2 x.f3) else (observatoryref21_node.j0 k (x.f2.toList != ([] : List UInt8)) x.f0 x.f1 x.f2 x.f3)) else (if x.f1 = 0 then (if x.f0 = 2 then (observatoryref21_node.j0 k false x.f0 x.f1 x.f2 x.f3) else (observatoryref21_node.j0 k (x.f2.toList != ([] : List UInt8)) x.f0 x.f1 x.f2 x.f3)) else (observatoryref21_node.j0 k true x.f0 x.f1 x.f2 x.f3))) else (observatoryref21_node.j0 k true x.f0 x.f1 x.f2 x.f3)) (fun k => rfl) ?_
  by_cases h0 : opsZ x.f0 = x.f3.length
  · simp only [if_pos h0]
    rw [empty_str]
    by_cases h1 : x.f0 = 1
    · have h2 : ¬ x.f0 = 2 := by omega
      simp only [if_pos h1, if_neg h2]
      by_cases h3 : x.f2 = ⟨#[]⟩
      · rw [decide_eq_true h3]
        refine EvS.some (fun k => ?_)
        simp only [observatoryref21_node.j0]
        rw [if_neg (by decide), if_pos h1]
        by_cases h4 : x.f1 ≥ 0
        · rw [if_pos h4]
          congr 1
          by_cases h5 : x.f1 ≤ 1000000
          · rw [decide_eq_true h5, (formed_iff x).2 ⟨h0, .inl ⟨h1, h3, h4, h5⟩⟩]
          · rw [decide_eq_false h5, formed_no (fun h => by rcases h.2 with h | h | h <;> first | exact h5 h.2.2.2 | exact h2 h.1 | exact h.1 h1)]
        · rw [if_neg h4, formed_no (fun h => by rcases h.2 with h | h | h <;> first | exact h4 h.2.2.1 | exact h2 h.1 | exact h.1 h1)]
      · rw [decide_eq_false h3, formed_no (fun h => by rcases h.2 with h | h | h <;> first | exact h3 h.2.1 | exact h2 h.1 | exact h.1 h1)]
        exact j0_yes x
    · simp only [if_neg h1]
      by_cases h3 : x.f1 = 0
      · simp only [if_pos h3]
        by_cases h2 : x.f0 = 2
        · simp only [if_pos h2]
          have key : formedB x = (nameOk x.f2.data.toList && (lookM functionsL x.f2.data.toList).isNone) := by
            cases hq : (nameOk x.f2.data.toList && (lookM functionsL x.f2.data.toList).isNone) with
            | true => exact (formed_iff x).2 ⟨h0, .inr (.inl ⟨h2, h3, by rw [identL_name]; exact hq⟩)⟩
            | false => exact formed_no (fun h => by
                rcases h.2 with h | h | h
                · exact h1 h.1
                · rw [identL_name, hq] at h; cases h.2.2
                · exact h.2.1 h2)
          rw [key]
          refine EvS.bind (id21 x.f2) (h := fun k t n => if t = true then ((observatoryref21_function.f x.f2).bind fun t178 => (some (!t178))) else (some false)) (fun k => ?_) ?_
          · simp only [observatoryref21_node.j0]
            rw [if_neg (by decide), if_neg h1, if_pos h2]
          · cases nameOk x.f2.data.toList with
            | false => exact EvS.some (fun k => rfl)
            | true =>
              refine EvS.some (fun k => ?_)
              simp only [if_true]
              rw [function21]
              cases lookM functionsL x.f2.data.toList <;> rfl
        · simp only [if_neg h2]
          by_cases h4 : x.f2 = ⟨#[]⟩
          · rw [decide_eq_true h4, (formed_iff x).2 ⟨h0, .inr (.inr ⟨h1, h2, h3, h4⟩)⟩]
            refine EvS.some (fun k => ?_)
            simp only [observatoryref21_node.j0]
            rw [if_neg (by decide), if_neg h1, if_neg h2]
          · rw [decide_eq_false h4, formed_no (fun h => by rcases h.2 with h | h | h <;> first | exact h1 h.1 | exact h2 h.1 | exact h4 h.2.2.2)]
            exact j0_yes x
      · simp only [if_neg h3]
        rw [formed_no (fun h => by rcases h.2 with h | h | h <;> first | exact h1 h.1 | exact h3 h.2.1 | exact h3 h.2.2.1)]
        exact j0_yes x
  · simp only [if_neg h0]
    rw [formed_no (fun h => h0 h.1)]
    exact j0_yes x
theorem node_some (x : S57) : ∃ k, observatoryref21_node.f k x.f0 x.f1 x.f2 x.f3 = some (formedB x) := (node21 x).at
end Go.Proofs.YtenecpmonodjaaaGreatDoor.PAll
