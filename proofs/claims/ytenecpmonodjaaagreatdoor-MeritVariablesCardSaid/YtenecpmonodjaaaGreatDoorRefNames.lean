/- The reference's check of names and of variables answers as the program's: in Lean alone. -/
import Derived.Test.YtenecpmonodjaaaGreatDoorFew
import Derived.Test.YtenecpmonodjaaaGreatDoorNames
import Derived.Test.YtenecpmonodjaaaGreatDoorPAllx5
import Derived.Test.YtenecpmonodjaaaGreatDoorPAllx6
namespace Go.Proofs.YtenecpmonodjaaaGreatDoor.PAll
open Go.RowKit Go.Proofs.YtenecpmonodjaaaGreatDoorW.PrintWords Go.Proofs.YtenecpmonodjaaaGreatDoorW.PrintLast Go.Proofs.YtenecpmonodjaaaGreatDoorW.PrintMore
open Go.Proofs.YtenecpmonodjaaaGreatDoor.Obs
set_option linter.unusedVariables false
set_option linter.unusedSimpArgs false

theorem letter8_some (c : UInt8) : observatoryref08_letter.f (c.toNat : Int) = some (isLetter c) := by
  unfold observatoryref08_letter.f isLetter
  by_cases h1 : 97 ≤ c.toNat
  · by_cases h2 : c.toNat ≤ 122
    · rw [if_pos (by omega), if_pos (by omega), decide_eq_true h1, decide_eq_true h2]; rfl
    · rw [if_pos (by omega), if_neg (by omega), if_pos (by omega), decide_eq_true h1, decide_eq_false h2, decide_eq_true (show 65 ≤ c.toNat by omega), decide_eq_false (show ¬ c.toNat ≤ 90 by omega), decide_eq_false (by omega)]; rfl
  · rw [if_neg (by omega), decide_eq_false h1]
    by_cases h3 : 65 ≤ c.toNat
    · rw [if_pos (by omega), decide_eq_true h3]
      by_cases h4 : c.toNat ≤ 90
      · rw [decide_eq_true h4, decide_eq_true (by omega)]; rfl
      · rw [decide_eq_false h4, decide_eq_false (by omega)]; rfl
    · rw [if_neg (by omega), decide_eq_false h3]; rfl
theorem digit8_some (c : UInt8) : observatoryref08_digit.f (c.toNat : Int) = some (isDigit c) := by
  unfold observatoryref08_digit.f isDigit
  by_cases h1 : 48 ≤ c.toNat
  · rw [if_pos (by omega), decide_eq_true h1]
    by_cases h4 : c.toNat ≤ 57
    · rw [decide_eq_true h4, decide_eq_true (by omega)]; rfl
    · rw [decide_eq_false h4, decide_eq_false (by omega)]; rfl
  · rw [if_neg (by omega), decide_eq_false h1]; rfl
theorem word8_some (c : UInt8) : observatoryref08_word.f (c.toNat : Int) = some (isWord c) := by
  unfold observatoryref08_word.f isWord
  rw [letter8_some, digit8_some]
  simp only [Option.bind_some]
  cases isLetter c with
  | true => rfl
  | false =>
    cases isDigit c with
    | true => rfl
    | false =>
      rw [if_neg (by decide), if_neg (by decide)]
      by_cases h : c.toNat = 95
      · rw [h]; rfl
      · rw [beq_eq_false_iff_ne.2 h, beq_eq_false_iff_ne.2 (show (c.toNat : Int) ≠ 95 by omega)]; rfl
theorem bt_list (s : ByteArray) (i : Nat) (h : i < s.size) : bt s (i : Int) = ((s.data.toList.getD i 0).toNat : Int) := by
  rw [← bt_at s (i : Int) (by rw [Int.toNat_natCast]; exact h)]
  have h2 : i < s.data.toList.length := h
  rw [List.getD_eq_getElem?_getD, List.getElem?_eq_getElem h2]
  rfl
theorem word_letter {c : UInt8} (h : isLetter c = true) : isWord c = true := by unfold isWord; rw [h]; rfl
def nameEnd (l : List UInt8) : Bool := decide (0 < l.length) && decide (l.length ≤ 24) && isLetter (l.getD 0 0)
theorem wrap_big (n : Nat) (h : n < 9223372036854775807) : wrap64 ((n : Int) + 1) = ((n + 1 : Nat) : Int) := by unfold wrap64; omega
theorem name8_l0 (s : ByteArray) (hs : s.size ≤ 9223372036854775807) : ∀ (d i : Nat), i + d = s.size → EvS (fun k => observatoryref08_Name.l0 k s i) ((s.data.toList.drop i).all isWord && nameEnd s.data.toList) := by
  have hsl : s.size = s.data.toList.length := rfl
  intro d
  induction d with
  | zero =>
    intro i hi
    refine EvS.some (fun k => ?_)
    simp only [observatoryref08_Name.l0]
    rw [if_neg (by omega), List.drop_eq_nil_of_le (by omega)]
    unfold nameEnd
    by_cases h0 : 0 < s.size
    · rw [if_pos (by omega), decide_eq_true (show 0 < s.data.toList.length by omega)]
      by_cases h1 : s.size ≤ 24
      · have hb := bt_list s 0 h0
        rw [if_pos (by omega), if_pos (by omega), decide_eq_true (show s.data.toList.length ≤ 24 by omega), show bt s 0 = bt s ((0 : Nat) : Int) from rfl, hb, letter8_some]
        rfl
      · rw [if_neg (by omega), decide_eq_false (show ¬ s.data.toList.length ≤ 24 by omega)]
        rfl
    · rw [if_neg (by omega), decide_eq_false (show ¬ 0 < s.data.toList.length by omega)]
      rfl
  | succ d ih =>
    intro i hi
    have hil : i < s.data.toList.length := by omega
    have hdr : s.data.toList.drop i = s.data.toList.getD i 0 :: s.data.toList.drop (i + 1) := by
      rw [List.drop_eq_getElem_cons hil, List.getD_eq_getElem?_getD, List.getElem?_eq_getElem hil]; rfl
    have step : ∀ k, observatoryref08_Name.l0 (k + 1) s i = if isWord (s.data.toList.getD i 0) = true then observatoryref08_Name.l0 k s ((i + 1 : Nat) : Int) else some false := by
      intro k
      simp only [observatoryref08_Name.l0]
      rw [if_pos (by omega), if_pos (by omega), bt_list s i (by omega), word8_some, wrap_big i (by omega)]
      rfl
    rw [hdr, List.all_cons]
    cases hw : isWord (s.data.toList.getD i 0) with
    | true =>
      rw [Bool.true_and]
      exact EvS.step (h := fun k => observatoryref08_Name.l0 k s ((i + 1 : Nat) : Int)) (fun k => by rw [step, if_pos hw]) (ih (i + 1) (by omega))
    | false =>
      refine EvS.some (fun k => ?_)
      rw [step, if_neg (by rw [hw]; decide)]
      rfl
theorem name_end (l : List UInt8) : (l.all isWord && nameEnd l) = nameOk l := by
  cases l with
  | nil => rfl
  | cons c r =>
    have e : decide (r.length + 1 ≤ 24) = decide (r.length ≤ 23) := decide_eq_decide.2 (by omega)
    have h1 : ((c :: r).all isWord && nameEnd (c :: r)) = (isWord c && r.all isWord && (decide (0 < r.length + 1) && decide (r.length + 1 ≤ 24) && isLetter c)) := by rw [List.all_cons]; rfl
    have h2 : nameOk (c :: r) = (isLetter c && r.all isWord && decide (r.length ≤ 23)) := rfl
    rw [h1, h2, decide_eq_true (show 0 < r.length + 1 by omega), Bool.true_and, e]
    cases hc : isLetter c with
    | true => rw [word_letter hc, Bool.true_and, Bool.and_true]
    | false => rw [Bool.and_false, Bool.and_false]; rfl
theorem name8 (s : ByteArray) (hs : s.size ≤ 9223372036854775807) : EvS (fun k => observatoryref08_Name.f k s) (nameOk s.data.toList) := by
  have h := name8_l0 s hs s.size 0 (by omega)
  rw [List.drop_zero, name_end] at h
  exact h

/-! ### the variables -/
theorem lookM_some : ∀ (m : List (List UInt8 × Int)) (s : List UInt8), (lookM m s).isSome = m.any fun p => p.1 == s
  | [], s => rfl
  | p :: r, s => by
    simp only [lookM, List.any_cons]
    by_cases h : p.1 = s
    · rw [if_pos h, h, beq_self_eq_true]; rfl
    · rw [if_neg h, beq_eq_false_iff_ne.2 h, Bool.false_or]; exact lookM_some r s
def varP (v : S36) : List UInt8 × Int := (v.f0.data.toList, v.f1)
theorem rdV (l : List S36) (i : Nat) (h : i < l.length) : rd_T36 l (i : Int) = l[i] := by
  show l.getD i z36 = _
  rw [List.getD_eq_getElem?_getD, List.getElem?_eq_getElem h]; rfl
theorem v23_l1 (l : List S36) (i : Nat) (hi : i < l.length) (hl : l.length ≤ 1000) (r : Bool) (hr : EvS (fun n => observatoryref23_Valid.l0 n l ((i + 1 : Nat) : Int)) r) :
    ∀ (d k : Nat), k + d = i → EvS (fun n => observatoryref23_Valid.l1 n l i k) (if ((l.take i).drop k).any (fun v => v.f0.data.toList == (l[i]).f0.data.toList) = true then false else r) := by
  intro d
  induction d with
  | zero =>
    intro k hk
    have hnil : (l.take i).drop k = [] := List.drop_eq_nil_of_le (by rw [List.length_take]; omega)
    rw [hnil, List.any_nil, if_neg (by decide)]
    refine hr.step (fun n => ?_)
    simp only [observatoryref23_Valid.l1]
    rw [if_neg (by omega), wrap_nat i (by omega)]
  | succ d ih =>
    intro k hk
    have hkl : k < l.length := by omega
    have hkt : k < (l.take i).length := by rw [List.length_take]; omega
    have hdr : (l.take i).drop k = l[k] :: (l.take i).drop (k + 1) := by
      rw [List.drop_eq_getElem_cons hkt, List.getElem_take]
    have step : ∀ n, observatoryref23_Valid.l1 (n + 1) l i k = if (l[k]).f0.data.toList = (l[i]).f0.data.toList then some false else observatoryref23_Valid.l1 n l i ((k + 1 : Nat) : Int) := by
      intro n
      simp only [observatoryref23_Valid.l1]
      rw [if_pos (by omega), if_pos (by omega), if_pos (by omega), if_pos (by omega), if_pos (by omega), rdV l k hkl, rdV l i hi, wrap_nat k (by omega), ByteArray.toList_eq, ByteArray.toList_eq]
    rw [hdr, List.any_cons]
    by_cases h : (l[k]).f0.data.toList = (l[i]).f0.data.toList
    · refine EvS.some (fun n => ?_)
      rw [step, if_pos h, h, beq_self_eq_true]
      rfl
    · rw [beq_eq_false_iff_ne.2 h, Bool.false_or]
      exact EvS.step (h := fun n => observatoryref23_Valid.l1 n l i ((k + 1 : Nat) : Int)) (fun n => by rw [step, if_neg h]) (ih (k + 1) (by omega))
theorem EvS.bind {α β : Type} {g : Nat → Option α} {r : α} {f : Nat → Option β} {h : Nat → α → Nat → Option β} {q : β} (hg : EvS g r) (hf : ∀ k, f (k + 1) = (g k).bind fun t => h k t k) (hq : EvS (fun k => h k r k) q) : EvS f q := by
  obtain ⟨K, hK⟩ := hg
  obtain ⟨L, hL⟩ := hq
  refine ⟨max K L + 1, fun k hk => ?_⟩
  obtain ⟨m, rfl⟩ : ∃ m, k = m + 1 := ⟨k - 1, by omega⟩
  rw [hf, hK m (by omega)]
  exact hL m (by omega)
theorem v23_l0 (l : List S36) (hl : l.length ≤ 1000) (hs : ∀ v ∈ l, v.f0.size ≤ 9223372036854775807) : ∀ (d i : Nat), i + d = l.length → EvS (fun n => observatoryref23_Valid.l0 n l i) (valsM (l.drop i) ((l.take i).map varP)).isSome := by
  intro d
  induction d with
  | zero =>
    intro i hi
    refine EvS.some (fun n => ?_)
    simp only [observatoryref23_Valid.l0]
    rw [if_neg (by omega), List.drop_eq_nil_of_le (by omega)]
    rfl
  | succ d ih =>
    intro i hi
    have hil : i < l.length := by omega
    have hdr : l.drop i = l[i] :: l.drop (i + 1) := List.drop_eq_getElem_cons hil
    have htk : (l.take (i + 1)).map varP = (l.take i).map varP ++ [varP l[i]] := by rw [List.take_succ_eq_append_getElem hil, List.map_append]; rfl
    have ih' := ih (i + 1) (by omega)
    rw [htk] at ih'
    have hany : ((l.take i).map varP).any (fun p => p.1 == (l[i]).f0.data.toList) = ((l.take i).drop 0).any (fun v => v.f0.data.toList == (l[i]).f0.data.toList) := by
      rw [List.drop_zero, List.any_map]; rfl
    have hval : valsM (l.drop i) ((l.take i).map varP) = if (lookM ((l.take i).map varP) (l[i]).f0.data.toList).isSome = true ∨ identV (l[i]).f0.data.toList = false ∨ outB (l[i]).f1 = true then none else valsM (l.drop (i + 1)) ((l.take i).map varP ++ [varP l[i]]) := by
      rw [hdr]; rfl
    rw [hval, lookM_some, hany, identV_name]
    have hn := name8 (l[i]).f0 (by have := hs _ (List.getElem_mem hil); omega)
    have f0 : EvS (fun n => observatoryref23_Valid.j1 n l i true) false := EvS.some (fun n => by simp only [observatoryref23_Valid.j1]; rw [if_pos trivial])
    have f1 := EvS.step (g := fun n => observatoryref23_Valid.j1 n l i false) (h := fun n => observatoryref23_Valid.l1 n l i ((0 : Nat) : Int)) (fun n => by simp only [observatoryref23_Valid.j1]; rw [if_neg (by decide)]; rfl) (v23_l1 l i hil hl _ ih' i 0 (by omega))
    refine EvS.bind hn (h := fun k t n => if t = true then (if (l[i]).f1 < (-1000000000000) then (observatoryref23_Valid.j1 n l i true) else (observatoryref23_Valid.j1 n l i (decide ((l[i]).f1 > 1000000000000)))) else (observatoryref23_Valid.j1 n l i true)) (fun n => ?_) ?_
    · simp only [observatoryref23_Valid.l0]
      rw [if_pos (by omega), if_pos (by omega), rdV l i hil]
    · cases hnm : nameOk (l[i]).f0.data.toList with
      | false =>
        rw [if_pos (.inr (.inl rfl))]
        simp only [Bool.false_eq_true, if_false]
        exact f0
      | true =>
        simp only [if_true]
        by_cases h1 : (l[i]).f1 < -1000000000000
        · have ho : outB (l[i]).f1 = true := by unfold outB; rw [decide_eq_true h1]; rfl
          rw [if_pos (.inr (.inr ho))]
          simp only [if_pos h1]
          exact f0
        · simp only [if_neg h1]
          by_cases h2 : (l[i]).f1 > 1000000000000
          · have ho : outB (l[i]).f1 = true := by unfold outB; rw [decide_eq_true (show 1000000000000 < (l[i]).f1 from h2), Bool.or_true]
            rw [if_pos (.inr (.inr ho)), decide_eq_true h2]
            exact f0
          · have ho : outB (l[i]).f1 = false := by unfold outB; rw [decide_eq_false h1, decide_eq_false (show ¬ 1000000000000 < (l[i]).f1 from h2)]; rfl
            rw [decide_eq_false h2]
            by_cases ha : ((l.take i).drop 0).any (fun v => v.f0.data.toList == (l[i]).f0.data.toList) = true
            · rw [if_pos ha] at f1
              rw [if_pos (.inl ha)]
              exact f1
            · rw [if_neg ha] at f1
              rw [if_neg (fun h => h.elim ha (fun h => h.elim (fun h => by cases h) (fun h => by rw [ho] at h; cases h)))]
              exact f1
/-- The reference's check of the variables is the program's. -/
theorem v23 (l : List S36) (hl : l.length ≤ 1000) (hs : ∀ v ∈ l, v.f0.size ≤ 9223372036854775807) : EvS (fun n => observatoryref23_Valid.f n l) (valsM l []).isSome := v23_l0 l hl hs l.length 0 (by omega)
end Go.Proofs.YtenecpmonodjaaaGreatDoor.PAll
