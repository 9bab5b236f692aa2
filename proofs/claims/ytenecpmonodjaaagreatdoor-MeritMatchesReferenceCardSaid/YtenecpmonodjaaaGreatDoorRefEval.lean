/- The reference's Eval answers as the program's, for few variables: in Lean alone. -/
import Derived.Test.YtenecpmonodjaaaGreatDoorRefNames
import Derived.Test.YtenecpmonodjaaaGreatDoorHRefV
import Derived.Test.YtenecpmonodjaaaGreatDoorEvalT
import Derived.Test.YtenecpmonodjaaaGreatDoorPAllx13
namespace Go.Proofs.YtenecpmonodjaaaGreatDoor.PAll
open Go.RowKit Go.Proofs.YtenecpmonodjaaaGreatDoorW.PrintWords Go.Proofs.YtenecpmonodjaaaGreatDoorW.PrintLast Go.Proofs.YtenecpmonodjaaaGreatDoorW.PrintMore
open Go.Proofs.YtenecpmonodjaaaGreatDoor.Obs
set_option linter.unusedVariables false
set_option linter.unusedSimpArgs false

theorem outB_iff (v : Int) : outB v = false ↔ -1000000000000 ≤ v ∧ v ≤ 1000000000000 := by
  unfold outB
  rw [Bool.or_eq_false_iff, decide_eq_false_iff_not, decide_eq_false_iff_not]
  omega
theorem mul23 (a b : Int) (ha : outB a = false) (hb : outB b = false) : merit_mul.f a b = some (if (a * b).natAbs ≤ 1000000000000 then a * b else 1000000000001) := by
  have ha := (outB_iff a).1 ha
  have hb := (outB_iff b).1 hb
  have hab : ∀ z : Int, -1000000000000 ≤ z → z ≤ 1000000000000 → IntKind.u64.wrap (mx z (wrap64 (-z))) = (z.natAbs : Int) := fun z h1 h2 => by
    rw [IntKind.wrap_u64]
    unfold mx wrap64
    split <;> omega
  have hp : ((a.natAbs : Int) * (b.natAbs : Int)) = ((a * b).natAbs : Int) := by rw [Int.natAbs_mul]; rfl
  unfold merit_mul.f merit_abs.f bits_Mul64.f
  simp only [Option.bind_some]
  rw [hab a ha.1 ha.2, hab b hb.1 hb.2, hp, if_pos (by omega)]
  simp only [Option.bind_some]
  by_cases h : (a * b).natAbs ≤ 1000000000000
  · rw [if_neg (by omega), if_neg (by omega), if_pos h, show wrap64 (a * b) = a * b by unfold wrap64; omega]
  · rw [if_neg h]
    by_cases h2 : ((a * b).natAbs : Int) / 18446744073709551616 > 0
    · rw [if_pos h2]
    · rw [if_neg h2, if_pos (by omega)]
theorem mulR23 (a b : Int) (ha : outB a = false) (hb : outB b = false) : ∃ v, observatoryref22_Mul.f a b = some v ∧ outB v = decide (1000000000000 < (a * b).natAbs) ∧ ((a * b).natAbs ≤ 1000000000000 → v = a * b) := by
  have ha := (outB_iff a).1 ha
  have hb := (outB_iff b).1 hb
  refine ⟨mulR a b, by unfold observatoryref22_Mul.f; rw [if_pos ⟨ha.1, ha.2, hb.1, hb.2⟩], ?_⟩
  have hp : ((b.natAbs : Int) * (a.natAbs : Int)) = ((a * b).natAbs : Int) := by rw [Int.mul_comm a b, Int.natAbs_mul]; rfl
  have hc : ((a.natAbs : Int) = 0 ∨ (b.natAbs : Int) ≤ 1000000000000 / (a.natAbs : Int)) ↔ (a * b).natAbs ≤ 1000000000000 := by
    by_cases h0 : (a.natAbs : Int) = 0
    · have : a = 0 := by omega
      subst this
      rw [Int.zero_mul]
      exact ⟨fun _ => by decide, fun _ => .inl rfl⟩
    · have hpos : (0 : Int) < a.natAbs := by omega
      have := Int.le_ediv_iff_mul_le (a := (b.natAbs : Int)) (b := 1000000000000) hpos
      rw [hp] at this
      constructor
      · rintro (h | h)
        · exact absurd h h0
        · have := this.1 h; omega
      · intro h
        exact .inr (this.2 (by omega))
  unfold mulR
  by_cases h : (a * b).natAbs ≤ 1000000000000
  · rw [if_pos (hc.2 h), show wrap64 (a * b) = a * b by unfold wrap64; omega]
    exact ⟨by rw [decide_eq_false (by omega)]; exact (outB_iff _).2 (by omega), fun _ => rfl⟩
  · rw [if_neg (fun h' => h (hc.1 h')), decide_eq_true (by omega)]
    refine ⟨?_, fun h' => absurd h' h⟩
    split <;> rfl
theorem apply23 (x : S57) (hf : formedB x = true) (h1 : x.f0 ≠ 1) (h2 : x.f0 ≠ 2) (l : List Int) (hl : l.length = x.f3.length) (hv : ∀ v ∈ l, outB v = false) :
    ∃ v, observatoryref23_apply.f x.f0 l = some v ∧ outB v = outB (applyZ x.f0 l) ∧ (outB v = false → v = applyZ x.f0 l) := by
  have hs := applyZ_some x hf h1 h2 l hl
  have hops := ((formed_iff x).1 hf).1
  have same : observatoryref23_apply.f x.f0 l = merit_apply.f x.f0 l → ∃ v, observatoryref23_apply.f x.f0 l = some v ∧ outB v = outB (applyZ x.f0 l) ∧ (outB v = false → v = applyZ x.f0 l) := fun h => ⟨_, h.trans hs, rfl, fun _ => rfl⟩
  generalize x.f0 = op at *
  rcases ops_cases op with ⟨h, h' | h'⟩ | ⟨h, h'⟩ | ⟨h, h'⟩ | ⟨h, h' | h' | h' | h' | h' | h' | h' | h'⟩ | h
  · exact absurd h' h1
  · exact absurd h' h2
  · subst h'; exact same rfl
  · subst h'; exact same rfl
  · subst h'; exact same rfl
  · subst h'; exact same rfl
  · subst h'
    rw [h] at hops
    match l, (show l.length = 2 by omega), hv with
    | [a, b], _, hv =>
      have hva := hv a (by simp)
      have hvb := hv b (by simp)
      obtain ⟨v, e1, e2, e3⟩ := mulR23 a b hva hvb
      have hm := mul23 a b hva hvb
      have r0 : observatoryref23_apply.f 5 [a, b] = (observatoryref22_Mul.f a b).bind fun t => some t := rfl
      have r1 : applyZ 5 [a, b] = if (a * b).natAbs ≤ 1000000000000 then a * b else 1000000000001 := by
        have : merit_apply.f 5 [a, b] = (merit_mul.f a b).bind fun t => some t := rfl
        unfold applyZ
        rw [this, hm]
        rfl
      refine ⟨v, by rw [r0, e1]; rfl, ?_, ?_⟩
      · rw [r1, e2]
        by_cases hc : (a * b).natAbs ≤ 1000000000000
        · rw [if_pos hc, decide_eq_false (by omega)]; exact ((outB_iff _).2 (by omega)).symm
        · rw [if_neg hc, decide_eq_true (by omega)]; rfl
      · intro ho
        rw [e2] at ho
        have hc : (a * b).natAbs ≤ 1000000000000 := by have := of_decide_eq_false ho; omega
        rw [r1, if_pos hc, e3 hc]
  · subst h'; exact same rfl
  · subst h'; exact same rfl
  · subst h'; exact same rfl
  · subst h'; exact same rfl
  · subst h'; exact same rfl
  · rw [h] at hops; omega
theorem valsM_at (l : List S36) (m : List (List UInt8 × Int)) (h : valsM l [] = some m) : ∀ k, k ≤ l.length → valsM (l.drop k) ((l.take k).map varP) = some m
  | 0, _ => h
  | k + 1, hk => by
    have hkl : k < l.length := by omega
    have ih := valsM_at l m h k (by omega)
    rw [List.drop_eq_getElem_cons hkl] at ih
    simp only [valsM] at ih
    split at ih
    · cases ih
    · rw [List.take_succ_eq_append_getElem hkl, List.map_append]
      exact ih
theorem valsM_new (l : List S36) (m : List (List UInt8 × Int)) (h : valsM l [] = some m) (k : Nat) (hk : k < l.length) : lookM ((l.take k).map varP) (l[k]).f0.data.toList = none := by
  have ih := valsM_at l m h k (by omega)
  rw [List.drop_eq_getElem_cons hk] at ih
  simp only [valsM] at ih
  split at ih
  · cases ih
  · rename_i hn
    cases hq : lookM ((l.take k).map varP) (l[k]).f0.data.toList with
    | none => rfl
    | some v => exact absurd (.inl (by rw [hq]; rfl)) hn
theorem valsM_map (l : List S36) (m : List (List UInt8 × Int)) (h : valsM l [] = some m) : m = l.map varP := by
  have := valsM_at l m h l.length (Nat.le_refl _)
  rw [List.drop_length, List.take_length] at this
  simp only [valsM] at this
  injection this with this
  exact this.symm
theorem lookM_app : ∀ (m : List (List UInt8 × Int)) (p : List UInt8 × Int) (s : List UInt8), lookM (m ++ [p]) s = match lookM m s with
    | some v => some v
    | none => if p.1 = s then some p.2 else none
  | [], p, s => by simp [lookM]
  | q :: r, p, s => by
    simp only [List.cons_append, lookM]
    by_cases h : q.1 = s
    · rw [if_pos h, if_pos h]
    · rw [if_neg h, if_neg h, lookM_app r p s]
def tailR (xs : List S57) (l : List S36) (found : List Int) (i : Nat) (v : Int) (k : Nat) : Option (Int × Int) :=
  if v < (-1000000000000) then some (0, 9) else if v > 1000000000000 then some (0, 9) else if found.length < 17592186044416 then observatoryref23_Eval.l0 k xs l (found ++ [v]) (wrap64 ((i : Int) + 1)) else none
theorem tail_ev (xs : List S57) (l : List S36) (found : List Int) (i : Nat) (v : Int) (r : Int × Int) (hi : i ≤ 1000) (hf : found.length ≤ 1000) (h : outB v = false → EvS (fun k => observatoryref23_Eval.l0 k xs l (found ++ [v]) ((i + 1 : Nat) : Int)) r) :
    EvS (fun k => tailR xs l found i v k) (if outB v = true then (0, 9) else r) := by
  cases ho : outB v with
  | true =>
    rw [if_pos rfl]
    refine ⟨0, fun k _ => ?_⟩
    show tailR xs l found i v k = _
    unfold tailR
    have : ¬ (-1000000000000 ≤ v ∧ v ≤ 1000000000000) := fun h' => by rw [(outB_iff v).2 h'] at ho; cases ho
    by_cases h1 : v < -1000000000000
    · rw [if_pos h1]
    · rw [if_neg h1, if_pos (by omega)]
  | false =>
    rw [if_neg (by decide)]
    obtain ⟨K, hK⟩ := h ho
    refine ⟨K, fun k hk => ?_⟩
    have hb := (outB_iff v).1 ho
    show tailR xs l found i v k = _
    unfold tailR
    rw [if_neg (by omega), if_neg (by omega), if_pos (by omega), wrap_nat i (by omega)]
    exact hK k hk
theorem rdN (xs : List S57) (i : Nat) (h : i < xs.length) : rd_T57 xs (i : Int) = xs[i] := by
  show xs.getD i z57 = _
  rw [List.getD_eq_getElem?_getD, List.getElem?_eq_getElem h]; rfl
theorem e23_l1 (xs : List S57) (l : List S36) (m : List (List UInt8 × Int)) (hm : valsM l [] = some m) (hl : l.length ≤ 1000) (found : List Int) (i : Nat) (hi : i < xs.length) (q : Int × Int)
    (hq : ∀ v, lookM m (xs[i]).f2.data.toList = some v → EvS (fun k => tailR xs l found i v k) q) (hn : lookM m (xs[i]).f2.data.toList = none → q = (0, 7)) :
    ∀ (d j : Nat), j + d = l.length → ∀ (a : Int) (b : Bool), b = (lookM ((l.take j).map varP) (xs[i]).f2.data.toList).isSome → (b = true → lookM ((l.take j).map varP) (xs[i]).f2.data.toList = some a) →
      EvS (fun k => observatoryref23_Eval.l1 k xs l found i a b j) q := by
  intro d
  induction d with
  | zero =>
    intro j hj a b hb ha
    have hj' : j = l.length := by omega
    subst hj'
    rw [List.take_length, ← valsM_map l m hm] at hb ha
    cases b with
    | true =>
      obtain ⟨K, hK⟩ := hq a (ha rfl)
      refine ⟨K + 1, fun k hk => ?_⟩
      obtain ⟨k, rfl⟩ : ∃ n, k = n + 1 := ⟨k - 1, by omega⟩
      simp only [observatoryref23_Eval.l1]
      rw [if_neg (by omega), if_pos trivial]
      exact hK k (by omega)
    | false =>
      have hnone : lookM m (xs[i]).f2.data.toList = none := by
        cases hx : lookM m (xs[i]).f2.data.toList with
        | none => rfl
        | some v => rw [hx] at hb; cases hb
      rw [hn hnone]
      refine EvS.some (fun k => ?_)
      simp only [observatoryref23_Eval.l1]
      rw [if_neg (by omega), if_neg (by decide)]
  | succ d ih =>
    intro j hj a b hb ha
    have hjl : j < l.length := by omega
    have hnew := valsM_new l m hm j hjl
    have htk : (l.take (j + 1)).map varP = (l.take j).map varP ++ [varP l[j]] := by rw [List.take_succ_eq_append_getElem hjl, List.map_append]; rfl
    have step : ∀ k, observatoryref23_Eval.l1 (k + 1) xs l found i a b j = if (l[j]).f0.data.toList = (xs[i]).f2.data.toList then observatoryref23_Eval.l1 k xs l found i (l[j]).f1 true ((j + 1 : Nat) : Int) else observatoryref23_Eval.l1 k xs l found i a b ((j + 1 : Nat) : Int) := by
      intro k
      simp only [observatoryref23_Eval.l1]
      rw [if_pos (by omega), if_pos (by omega), if_pos (by omega), if_pos (by omega), rdV l j hjl, rdN xs i hi, wrap_nat j (by omega), ByteArray.toList_eq, ByteArray.toList_eq]
    by_cases h : (l[j]).f0.data.toList = (xs[i]).f2.data.toList
    · rw [h] at hnew
      have hlook : lookM ((l.take (j + 1)).map varP) (xs[i]).f2.data.toList = some (l[j]).f1 := by
        rw [htk, lookM_app, hnew]
        show (if (varP l[j]).1 = _ then _ else _) = _
        rw [if_pos (show (varP l[j]).1 = (xs[i]).f2.data.toList from h)]
        rfl
      refine EvS.step (h := fun k => observatoryref23_Eval.l1 k xs l found i (l[j]).f1 true ((j + 1 : Nat) : Int)) (fun k => by rw [step, if_pos h]) (ih (j + 1) (by omega) _ _ (by rw [hlook]; rfl) (fun _ => hlook))
    · have hlook : lookM ((l.take (j + 1)).map varP) (xs[i]).f2.data.toList = lookM ((l.take j).map varP) (xs[i]).f2.data.toList := by
        rw [htk, lookM_app]
        cases lookM ((l.take j).map varP) (xs[i]).f2.data.toList with
        | some v => rfl
        | none =>
          show (if (varP l[j]).1 = _ then _ else _) = _
          rw [if_neg (show ¬ (varP l[j]).1 = (xs[i]).f2.data.toList from h)]
      refine EvS.step (h := fun k => observatoryref23_Eval.l1 k xs l found i a b ((j + 1 : Nat) : Int)) (fun k => by rw [step, if_neg h]) (ih (j + 1) (by omega) _ _ (by rw [hlook]; exact hb) (fun hbt => by rw [hlook]; exact ha hbt))
theorem e23_l2 (xs : List S57) (l : List S36) (found : List Int) (i : Nat) (hi : i < xs.length) (hi3 : i ≤ 1000) (hf : formedB xs[i] = true) (h1 : (xs[i]).f0 ≠ 1) (h2 : (xs[i]).f0 ≠ 2) (hfl : found.length = i)
    (hk : ∀ k ∈ (xs[i]).f3, 0 ≤ k ∧ k < (i : Int)) (hv : ∀ v ∈ found, outB v = false) (q : Int × Int) (hq : ∀ v, outB v = outB (applyZ (xs[i]).f0 (kidsV found (xs[i]).f3)) → (outB v = false → v = applyZ (xs[i]).f0 (kidsV found (xs[i]).f3)) → EvS (fun k => tailR xs l found i v k) q) :
    ∀ (d j : Nat), j + d = (xs[i]).f3.length → EvS (fun k => observatoryref23_Eval.l2 k xs l found i (kidsV found ((xs[i]).f3.take j)) j) q := by
  have hf3 : (xs[i]).f3.length ≤ 3 := formed_len _ hf
  have hlen : ∀ ks : List Int, (kidsV found ks).length = ks.length := fun ks => by unfold kidsV; rw [List.length_map]
  intro d
  induction d with
  | zero =>
    intro j hj
    have hj' : j = (xs[i]).f3.length := by omega
    rw [hj', List.take_length]
    have hvk : ∀ v ∈ kidsV found (xs[i]).f3, outB v = false := by
      intro v hv'
      unfold kidsV at hv'
      obtain ⟨k, hk1, rfl⟩ := List.mem_map.1 hv'
      have hkk := hk k hk1
      have hlt : k.toNat < found.length := by omega
      rw [List.getD_eq_getElem?_getD, List.getElem?_eq_getElem hlt]
      exact hv _ (List.getElem_mem hlt)
    obtain ⟨v, e1, e2, e3⟩ := apply23 xs[i] hf h1 h2 (kidsV found (xs[i]).f3) (hlen _) hvk
    obtain ⟨K, hK⟩ := hq v e2 e3
    refine ⟨K + 1, fun k hk => ?_⟩
    obtain ⟨k, rfl⟩ : ∃ n, k = n + 1 := ⟨k - 1, by omega⟩
    simp only [observatoryref23_Eval.l2]
    rw [if_pos (by omega), if_pos (by omega), rdN xs i hi, if_neg (by omega), e1, Option.bind_some]
    exact hK k (by omega)
  | succ d ih =>
    intro j hj
    have hjl : j < (xs[i]).f3.length := by omega
    obtain ⟨kd, hkd⟩ : ∃ kd, rd (xs[i]).f3 (j : Int) = kd := ⟨_, rfl⟩
    have hkm : kd ∈ (xs[i]).f3 := by
      rw [← hkd]
      show (xs[i]).f3.getD j 0 ∈ _
      rw [List.getD_eq_getElem?_getD, List.getElem?_eq_getElem hjl]
      exact List.getElem_mem hjl
    have hkk := hk kd hkm
    have hnext : kidsV found ((xs[i]).f3.take (j + 1)) = kidsV found ((xs[i]).f3.take j) ++ [rd found kd] := by
      unfold kidsV
      rw [List.take_succ_eq_append_getElem hjl, List.map_append]
      have : (xs[i]).f3[j] = kd := by
        rw [← hkd]
        show _ = (xs[i]).f3.getD j 0
        rw [List.getD_eq_getElem?_getD, List.getElem?_eq_getElem hjl]; rfl
      rw [this]
      rfl
    have ih' := ih (j + 1) (by omega)
    rw [hnext] at ih'
    refine EvS.step (h := fun k => observatoryref23_Eval.l2 k xs l found i (kidsV found ((xs[i]).f3.take j) ++ [rd found kd]) ((j + 1 : Nat) : Int)) (fun k => ?_) ih'
    simp only [observatoryref23_Eval.l2]
    have hl4 : (kidsV found ((xs[i]).f3.take j)).length < 17592186044416 := by rw [hlen, List.length_take]; omega
    rw [if_pos (by omega), if_pos (by omega), rdN xs i hi, if_pos (by omega), if_pos (by omega), hkd, if_pos (by omega), if_pos (by omega), if_pos hl4, wrap_nat j (by omega)]
theorem e23_l0 (xs : List S57) (l : List S36) (m : List (List UInt8 × Int)) (hm : valsM l [] = some m) (hl : l.length ≤ 1000) (hv : validX xs = true) :
    ∀ (d i : Nat) (found : List Int) (last : Int), i + d = xs.length → found.length = i → (0 < i → found.getD (i - 1) 0 = last) → (∀ v ∈ found, outB v = false) → EvS (fun k => observatoryref23_Eval.l0 k xs l found i) (evalGo m (xs.drop i) found last) := by
  obtain ⟨hx1, hx2⟩ := valid_len xs hv
  intro d
  induction d with
  | zero =>
    intro i found last hi hf hlast ho
    refine EvS.some (fun k => ?_)
    simp only [observatoryref23_Eval.l0]
    have hw : wrap64 ((found.length : Int) - 1) = (found.length : Int) - 1 := by unfold wrap64; omega
    have hr : rd found ((found.length : Int) - 1) = last := by
      rw [← hlast (by omega)]
      show found.getD ((found.length : Int) - 1).toNat 0 = _
      rw [show ((found.length : Int) - 1).toNat = i - 1 by omega]
    rw [if_neg (by omega), hw, if_pos (by omega), if_pos (by omega), hr, List.drop_eq_nil_of_le (by omega)]
    rfl
  | succ d ih =>
    intro i found last hi hf hlast ho
    have hil : i < xs.length := by omega
    have hdr : xs.drop i = xs[i] :: xs.drop (i + 1) := List.drop_eq_getElem_cons hil
    obtain ⟨hfo, hk⟩ := valid_nodes xs hv i xs[i] (List.getElem?_eq_getElem hil)
    have next : ∀ v, outB v = false → EvS (fun k => observatoryref23_Eval.l0 k xs l (found ++ [v]) ((i + 1 : Nat) : Int)) (evalGo m (xs.drop (i + 1)) (found ++ [v]) v) := by
      intro v hov
      refine ih (i + 1) (found ++ [v]) v (by omega) (by rw [List.length_append, List.length_singleton]; omega) (fun _ => ?_) (fun u hu => ?_)
      · rw [Nat.add_sub_cancel, List.getD_eq_getElem?_getD, List.getElem?_append_right (by omega), show i - found.length = 0 by omega]
        rfl
      · rcases List.mem_append.1 hu with hu | hu
        · exact ho u hu
        · rw [List.mem_singleton] at hu; rw [hu]; exact hov
    have tl : ∀ v, EvS (fun k => tailR xs l found i v k) (if outB v = true then (0, 9) else evalGo m (xs.drop (i + 1)) (found ++ [v]) v) := fun v => tail_ev xs l found i v _ (by omega) (by omega) (next v)
    rw [hdr, evalGo_cons]
    by_cases h1 : (xs[i]).f0 = 1
    · rw [if_pos h1]
      refine EvS.step (h := fun k => tailR xs l found i (xs[i]).f1 k) (fun k => ?_) (tl (xs[i]).f1)
      simp only [observatoryref23_Eval.l0]
      rw [if_pos (by omega), if_pos (by omega), rdN xs i hil, if_pos h1]
      rfl
    · rw [if_neg h1]
      by_cases h2 : (xs[i]).f0 = 2
      · rw [if_pos h2]
        have step : ∀ k, observatoryref23_Eval.l0 (k + 1) xs l found i = observatoryref23_Eval.l1 k xs l found i 0 false ((0 : Nat) : Int) := by
          intro k
          simp only [observatoryref23_Eval.l0]
          rw [if_pos (by omega), if_pos (by omega), rdN xs i hil, if_neg h1, if_pos h2]
          rfl
        refine EvS.step step (e23_l1 xs l m hm hl found i hil _ (fun v hq => ?_) (fun hq => ?_) l.length 0 (by omega) 0 false rfl (fun h => by cases h))
        · rw [hq]; exact tl v
        · rw [hq]
      · rw [if_neg h2]
        have step : ∀ k, observatoryref23_Eval.l0 (k + 1) xs l found i = observatoryref23_Eval.l2 k xs l found i (kidsV found ((xs[i]).f3.take 0)) ((0 : Nat) : Int) := by
          intro k
          simp only [observatoryref23_Eval.l0]
          rw [if_pos (by omega), if_pos (by omega), rdN xs i hil, if_neg h1, if_neg h2]
          rfl
        refine EvS.step step (e23_l2 xs l found i hil (by omega) hfo h1 h2 hf hk ho _ (fun v e1 e2 => ?_) (xs[i]).f3.length 0 (by omega))
        have := tl v
        cases hov : outB v with
        | true =>
          rw [hov, if_pos rfl] at this
          rw [← e1, hov, if_pos rfl]
          exact this
        | false =>
          rw [← e2 hov]
          exact this
/-- The reference's Eval is the program's. -/
theorem e23 (xs : List S57) (l : List S36) (hl : l.length ≤ 1000) (hs : ∀ v ∈ l, v.f0.size ≤ 40) : EvS (fun k => observatoryref23_Eval.f k xs l) (evalX xs l) := by
  have hbad : EvS (fun k => observatoryref23_Eval.j0 k xs l true) (0, 1) := EvS.some (fun k => by simp only [observatoryref23_Eval.j0]; rw [if_pos trivial])
  have hf0 : ∀ k, observatoryref23_Eval.f k xs l = (if validX xs = true then ((observatoryref23_Valid.f k l).bind fun t204 => (observatoryref23_Eval.j0 k xs l (!t204))) else (observatoryref23_Eval.j0 k xs l true)) := by
    intro k
    unfold observatoryref23_Eval.f observatoryref21_Valid.f
    rw [Option.bind_some, refV_valid]
  have hfun : (fun k => observatoryref23_Eval.f k xs l) = fun k => (if validX xs = true then ((observatoryref23_Valid.f k l).bind fun t204 => (observatoryref23_Eval.j0 k xs l (!t204))) else (observatoryref23_Eval.j0 k xs l true)) := funext hf0
  rw [hfun]
  unfold evalX
  cases hv : validX xs with
  | false =>
    simp only [Bool.false_eq_true, if_false]
    cases valsM l [] with
    | none => exact hbad
    | some m => exact hbad
  | true =>
    simp only [if_true]
    refine EvS.bind0 (v23 l hl hs) (h := fun k t => observatoryref23_Eval.j0 k xs l (!t)) (fun k => rfl) ?_
    cases hm : valsM l [] with
    | none => exact hbad
    | some m =>
      refine EvS.step (h := fun k => observatoryref23_Eval.l0 k xs l ([] : List Int) ((0 : Nat) : Int)) (fun k => ?_) ?_
      · show observatoryref23_Eval.j0 (k + 1) xs l (!(some m).isSome) = _
        simp only [observatoryref23_Eval.j0]
        rw [if_neg (by simp)]
        rfl
      · have := e23_l0 xs l m hm hl hv xs.length 0 [] 0 (by omega) rfl (fun h => by omega) (fun _ h => by cases h)
        rw [List.drop_zero] at this
        exact this
end Go.Proofs.YtenecpmonodjaaaGreatDoor.PAll
