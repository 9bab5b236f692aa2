/- Variables: what they hold, in which order; the names of a tree: in Lean alone. -/
import Derived.Test.YtenecpmonodjaaaGreatDoorRefNames
import Derived.Test.YtenecpmonodjaaaGreatDoorEvalT
import Derived.Test.YtenecpmonodjaaaGreatDoorHNames
import Derived.Test.YtenecpmonodjaaaGreatDoorHHead
import Derived.Test.YtenecpmonodjaaaGreatDoorFew
import Derived.Test.YtenecpmonodjaaaGreatDoorPAllx16
namespace Go.Proofs.YtenecpmonodjaaaGreatDoor.PAll
open Go.RowKit Go.Proofs.YtenecpmonodjaaaGreatDoorW.PrintWords Go.Proofs.YtenecpmonodjaaaGreatDoorW.PrintLast Go.Proofs.YtenecpmonodjaaaGreatDoorW.PrintMore
open Go.Proofs.YtenecpmonodjaaaGreatDoor.Obs
set_option linter.unusedVariables false
set_option linter.unusedSimpArgs false

def T.nms : T → List (List UInt8)
  | .num _ => []
  | .name s => [s.data.toList]
  | .neg a => a.nms
  | .bin _ a b => a.nms ++ b.nms
  | .ite a b c => a.nms ++ (b.nms ++ c.nms)
theorem namesL_one (x : S57) (h : x.f0 ≠ 2) : namesL [x] = [] := by simp only [namesL]; rw [if_neg h]
theorem names_flat : ∀ (t : T) (m : Nat), t.ok → namesL (t.flat m) = t.nms
  | .num _, _, _ => rfl
  | .name _, _, _ => rfl
  | .neg a, m, h => by simp only [T.flat, T.nms]; rw [namesL_app, names_flat a m h, namesL_one _ (show (12 : Int) ≠ 2 by decide), List.append_nil]
  | .bin op a b, m, h => by
    simp only [T.flat, T.nms]
    rw [namesL_app, namesL_app, names_flat a m h.2.1, names_flat b _ h.2.2, namesL_one _ (bin_ne h.1).2, List.append_nil]
  | .ite a b c, m, h => by
    simp only [T.flat, T.nms]
    rw [namesL_app, namesL_app, namesL_app, names_flat a m h.1, names_flat b _ h.2.1, names_flat c _ h.2.2, namesL_one _ (show (9 : Int) ≠ 2 by decide), List.append_nil]
theorem eT_congr (m m' : List (List UInt8 × Int)) : ∀ t : T, (∀ s ∈ t.nms, lookM m s = lookM m' s) → eT m t = eT m' t ∧ vT m t = vT m' t
  | .num _, _ => ⟨rfl, rfl⟩
  | .name s, h => by
    have h1 := h s.data.toList (by simp [T.nms])
    simp only [eT, vT]
    rw [h1]
    exact ⟨rfl, rfl⟩
  | .neg a, h => by
    obtain ⟨h1, h2⟩ := eT_congr m m' a h
    simp only [eT, vT]
    rw [h1, h2]
    exact ⟨rfl, rfl⟩
  | .bin op a b, h => by
    obtain ⟨h1, h2⟩ := eT_congr m m' a (fun s hs => h s (by simp only [T.nms, List.mem_append]; exact .inl hs))
    obtain ⟨h3, h4⟩ := eT_congr m m' b (fun s hs => h s (by simp only [T.nms, List.mem_append]; exact .inr hs))
    simp only [eT, vT]
    rw [h1, h2, h3, h4]
    exact ⟨rfl, rfl⟩
  | .ite a b c, h => by
    obtain ⟨h1, h2⟩ := eT_congr m m' a (fun s hs => h s (by simp only [T.nms, List.mem_append]; exact .inl hs))
    obtain ⟨h3, h4⟩ := eT_congr m m' b (fun s hs => h s (by simp only [T.nms, List.mem_append]; exact .inr (.inl hs)))
    obtain ⟨h5, h6⟩ := eT_congr m m' c (fun s hs => h s (by simp only [T.nms, List.mem_append]; exact .inr (.inr hs)))
    simp only [eT, vT]
    rw [h1, h2, h3, h4, h5, h6]
    exact ⟨rfl, rfl⟩
theorem eT_zero (m : List (List UInt8 × Int)) : ∀ t : T, eT m t = 0 → ∀ s ∈ t.nms, lookM m s ≠ none
  | .num _, _, s, hs => by cases hs
  | .name s, h, s', hs => by
    have : s' = s.data.toList := by simpa [T.nms] using hs
    subst this
    intro hn
    simp only [eT] at h
    rw [hn] at h
    cases h
  | .neg a, h, s, hs => by
    simp only [eT] at h
    split at h
    · rename_i h0; exact eT_zero m a h0 s hs
    · rename_i h0; exact absurd h h0
  | .bin op a b, h, s, hs => by
    simp only [eT] at h
    simp only [T.nms, List.mem_append] at hs
    split at h
    · rename_i h0
      split at h
      · rename_i h1
        exact hs.elim (eT_zero m a h0 s) (eT_zero m b h1 s)
      · rename_i h1; exact absurd h h1
    · rename_i h0; exact absurd h h0
  | .ite a b c, h, s, hs => by
    simp only [eT] at h
    simp only [T.nms, List.mem_append] at hs
    split at h
    · rename_i h0
      split at h
      · rename_i h1
        split at h
        · rename_i h2
          rcases hs with hs | hs | hs
          · exact eT_zero m a h0 s hs
          · exact eT_zero m b h1 s hs
          · exact eT_zero m c h2 s hs
        · rename_i h2; exact absurd h h2
      · rename_i h1; exact absurd h h1
    · rename_i h0; exact absurd h h0

/-! ### lists of variables -/
def nmV (v : S36) : List UInt8 := v.f0.data.toList
def GoodV (l : List S36) : Prop := (∀ v ∈ l, identV (nmV v) = true ∧ outB v.f1 = false) ∧ (l.map nmV).Nodup
theorem look_isSome (m : List (List UInt8 × Int)) (s : List UInt8) : (lookM m s).isSome = true ↔ ∃ p ∈ m, p.1 = s := by
  rw [lookM_some, List.any_eq_true]
  simp only [beq_iff_eq]
theorem vals_iff : ∀ (l : List S36) (acc : List (List UInt8 × Int)), (GoodV l ∧ ∀ v ∈ l, ∀ p ∈ acc, p.1 ≠ nmV v) ↔ valsM l acc = some (acc ++ l.map varP)
  | [], acc => by simp [valsM, GoodV]
  | v :: r, acc => by
    have hun : valsM (v :: r) acc = if (lookM acc v.f0.data.toList).isSome = true ∨ identV v.f0.data.toList = false ∨ outB v.f1 = true then none else valsM r (acc ++ [varP v]) := rfl
    have ih := vals_iff r (acc ++ [varP v])
    have happ : acc ++ (v :: r).map varP = acc ++ [varP v] ++ r.map varP := by simp
    rw [hun, happ]
    constructor
    · rintro ⟨⟨h1, h2⟩, h3⟩
      rw [List.map_cons, List.nodup_cons] at h2
      have hv := h1 v (.head _)
      rw [if_neg]
      · refine ih.1 ⟨⟨fun x hx => h1 x (.tail _ hx), h2.2⟩, fun x hx p hp => ?_⟩
        rcases List.mem_append.1 hp with hp | hp
        · exact h3 x (.tail _ hx) p hp
        · rw [List.mem_singleton.1 hp]
          exact fun e => h2.1 (by rw [show nmV v = nmV x from e]; exact List.mem_map.2 ⟨x, hx, rfl⟩)
      · rintro (h | h | h)
        · obtain ⟨p, hp, he⟩ := (look_isSome _ _).1 h
          exact h3 v (.head _) p hp he
        · exact absurd (hv.1.symm.trans h) (by decide)
        · exact absurd (hv.2.symm.trans h) (by decide)
    · intro h
      split at h
      · cases h
      · rename_i hc
        obtain ⟨⟨h1, h2⟩, h3⟩ := ih.2 h
        have hc1 : identV (nmV v) = true := by cases hq : identV (nmV v) with
          | true => rfl
          | false => exact absurd (.inr (.inl hq)) hc
        have hc2 : outB v.f1 = false := by cases hq : outB v.f1 with
          | false => rfl
          | true => exact absurd (.inr (.inr hq)) hc
        refine ⟨⟨fun x hx => ?_, ?_⟩, fun x hx p hp => ?_⟩
        · rcases List.mem_cons.1 hx with rfl | hx
          · exact ⟨hc1, hc2⟩
          · exact h1 x hx
        · rw [List.map_cons, List.nodup_cons]
          refine ⟨fun hm => ?_, h2⟩
          obtain ⟨x, hx, he⟩ := List.mem_map.1 hm
          exact h3 x hx (varP v) (by simp) he.symm
        · rcases List.mem_cons.1 hx with rfl | hx
          · exact fun e => hc (.inl ((look_isSome _ _).2 ⟨p, hp, e⟩))
          · exact h3 x hx p (List.mem_append_left _ hp)
theorem vals_some : ∀ (l : List S36) (acc m : List (List UInt8 × Int)), valsM l acc = some m → m = acc ++ l.map varP
  | [], acc, m, h => by injection h with h; rw [← h]; simp
  | v :: r, acc, m, h => by
    have hun : valsM (v :: r) acc = if (lookM acc v.f0.data.toList).isSome = true ∨ identV v.f0.data.toList = false ∨ outB v.f1 = true then none else valsM r (acc ++ [varP v]) := rfl
    rw [hun] at h
    split at h
    · cases h
    · rw [vals_some r _ m h]; simp
theorem vals_good (l : List S36) : GoodV l ↔ valsM l [] = some (l.map varP) := by
  have := vals_iff l []
  rw [List.nil_append] at this
  rw [← this]
  exact ⟨fun h => ⟨h, fun _ _ p hp => by cases hp⟩, fun h => h.1⟩
theorem vals_isSome (l : List S36) (h : (valsM l []).isSome = true) : GoodV l := by
  obtain ⟨m, hm⟩ := Option.isSome_iff_exists.1 h
  rw [vals_good, hm, vals_some l [] m hm]; rfl
theorem look_none (l : List S36) (s : List UInt8) : lookM (l.map varP) s = none ↔ ∀ v ∈ l, nmV v ≠ s := by
  rw [← Option.not_isSome_iff_eq_none, look_isSome]
  constructor
  · intro h v hv e
    exact h ⟨varP v, List.mem_map.2 ⟨v, hv, rfl⟩, e⟩
  · rintro h ⟨p, hp, e⟩
    obtain ⟨v, hv, rfl⟩ := List.mem_map.1 hp
    exact h v hv e
theorem look_val : ∀ (l : List S36), (l.map nmV).Nodup → ∀ v ∈ l, lookM (l.map varP) (nmV v) = some v.f1
  | [], _, v, hv => by cases hv
  | x :: r, hn, v, hv => by
    rw [List.map_cons, List.nodup_cons] at hn
    show (if (varP x).1 = nmV v then some (varP x).2 else lookM (r.map varP) (nmV v)) = _
    rcases List.mem_cons.1 hv with rfl | hv
    · rw [if_pos (show (varP v).1 = nmV v from rfl)]; rfl
    · rw [if_neg (fun e => hn.1 (by rw [show nmV x = nmV v from e]; exact List.mem_map.2 ⟨v, hv, rfl⟩))]
      exact look_val r hn.2 v hv
theorem look_same (l l' : List S36) (s : List UInt8) (hl : (l.map nmV).Nodup) (hl' : (l'.map nmV).Nodup) (h : ∀ v, nmV v = s → (v ∈ l ↔ v ∈ l')) : lookM (l.map varP) s = lookM (l'.map varP) s := by
  cases hq : lookM (l.map varP) s with
  | none =>
    symm
    rw [look_none] at hq ⊢
    exact fun v hv e => hq v ((h v e).2 hv) e
  | some x =>
    have : (lookM (l.map varP) s).isSome = true := by rw [hq]; rfl
    obtain ⟨p, hp, e⟩ := (look_isSome _ _).1 this
    obtain ⟨v, hv, rfl⟩ := List.mem_map.1 hp
    have e' : nmV v = s := e
    have h1 := look_val l hl v hv
    have h2 := look_val l' hl' v ((h v e').1 hv)
    rw [e'] at h1 h2
    rw [h2, ← h1, hq]
/-- The same result with variables that agree on the names that occur. -/
theorem evalX_agree (xs : List S57) (l l' : List S36) (hv : validX xs = true) (hl : GoodV l) (hl' : GoodV l') (h : ∀ s ∈ namesL xs, ∀ v, nmV v = s → (v ∈ l ↔ v ∈ l')) : evalX xs l' = evalX xs l := by
  obtain ⟨t, ht, rfl⟩ := (valid_iff xs).1 hv
  rw [evalX_tree t l _ ((vals_good l).1 hl) ht.1 hv, evalX_tree t l' _ ((vals_good l').1 hl') ht.1 hv]
  obtain ⟨h1, h2⟩ := eT_congr (l.map varP) (l'.map varP) t (fun s hs => look_same l l' s hl.2 hl'.2 (h s (by rw [names_flat t 0 ht.1]; exact hs)))
  rw [h1, h2]
/-- Without a name that occurs there is an error. -/
theorem evalX_lacks (xs : List S57) (l : List S36) (hv : validX xs = true) (hl : GoodV l) (s : List UInt8) (hs : s ∈ namesL xs) (h : ∀ v ∈ l, nmV v ≠ s) : evalX xs l = (0, 7) ∨ evalX xs l = (0, 9) := by
  obtain ⟨t, ht, rfl⟩ := (valid_iff xs).1 hv
  rw [evalX_tree t l _ ((vals_good l).1 hl) ht.1 hv]
  have hne : eT (l.map varP) t ≠ 0 := fun h0 => eT_zero _ t h0 s (by rw [← names_flat t 0 ht.1]; exact hs) ((look_none l s).2 h)
  rw [if_neg hne]
  rcases eT_codes (l.map varP) t with h0 | h0 | h0
  · exact absurd h0 hne
  · exact .inl (by rw [h0])
  · exact .inr (by rw [h0])
theorem good_rev (l : List S36) (h : GoodV l) : GoodV l.reverse := ⟨fun v hv => h.1 v (List.mem_reverse.1 hv), by rw [List.map_reverse]; exact List.pairwise_reverse.2 (h.2.imp fun h => h.symm)⟩
theorem good_filter (l : List S36) (p : S36 → Bool) (h : GoodV l) : GoodV (l.filter p) := ⟨fun v hv => h.1 v (List.mem_filter.1 hv).1, (h.2.sublist ((List.filter_sublist).map _))⟩
end Go.Proofs.YtenecpmonodjaaaGreatDoor.PAll

/- The names of an expression, sorted, each once: in Lean alone. -/
namespace Go.Proofs.YtenecpmonodjaaaGreatDoor.PAll
open Go.RowKit Go.Proofs.YtenecpmonodjaaaGreatDoorW.PrintWords Go.Proofs.YtenecpmonodjaaaGreatDoorW.PrintLast Go.Proofs.YtenecpmonodjaaaGreatDoorW.PrintMore
open Go.Proofs.YtenecpmonodjaaaGreatDoor.Obs
set_option linter.unusedVariables false
set_option linter.unusedSimpArgs false

theorem mem_sorted (l : List (List UInt8)) (x : List UInt8) : x ∈ sortedL l ↔ x ∈ l := by unfold sortedL; exact List.mem_mergeSort
theorem bang_get (zs : List (List UInt8)) (j : Nat) (h : j < zs.length) : zs.toArray[j]! = zs[j] := by
  rw [getElem!_pos zs.toArray j (by simpa using h)]
  simp
theorem mem_compact (zs : List (List UInt8)) (x : List UInt8) : x ∈ Lib.compact zs ↔ x ∈ zs := by
  unfold Lib.compact Lib.compactUpTo
  constructor
  · intro h
    obtain ⟨j, hj, rfl⟩ := List.mem_map.1 h
    have hj' : j < zs.length := by simpa using (List.mem_filter.1 hj).1
    rw [bang_get zs j hj']
    exact List.getElem_mem hj'
  · intro h
    obtain ⟨j, hj, he⟩ := List.mem_iff_getElem.1 h
    -- the first place of x
    have key : ∀ n, n < zs.length → zs.toArray[n]! = x → ∃ i, i ∈ (List.range zs.length).filter (Lib.keeps zs.toArray) ∧ zs.toArray[i]! = x := by
      intro n
      induction n with
      | zero =>
        intro h0 h1
        exact ⟨0, List.mem_filter.2 ⟨List.mem_range.2 h0, Lib.keeps_lt_one _ 0 (by omega)⟩, h1⟩
      | succ n ih =>
        intro h0 h1
        by_cases hk : Lib.keeps zs.toArray (n + 1) = true
        · exact ⟨n + 1, List.mem_filter.2 ⟨List.mem_range.2 h0, hk⟩, h1⟩
        · refine ih (by omega) ?_
          have : zs.toArray[n + 1]! = zs.toArray[n]! := by
            unfold Lib.keeps at hk
            simpa using hk
          rw [← this, h1]
    obtain ⟨i, hi, hx⟩ := key j hj (by rw [bang_get zs j hj, he])
    exact List.mem_map.2 ⟨i, hi, hx⟩
theorem mem_namesX (xs : List S57) (x : List UInt8) : x ∈ namesX xs ↔ x ∈ namesL xs := by unfold namesX; rw [mem_compact, mem_sorted]
end Go.Proofs.YtenecpmonodjaaaGreatDoor.PAll

/- MeritVariables: what it computes answers true. In Lean alone; and the walk, joined. -/
namespace Go.Proofs.YtenecpmonodjaaaGreatDoor.PAll
open Go.RowKit Go.Proofs.YtenecpmonodjaaaGreatDoorW.PrintWords Go.Proofs.YtenecpmonodjaaaGreatDoorW.PrintLast Go.Proofs.YtenecpmonodjaaaGreatDoorW.PrintMore
open Go.Proofs.YtenecpmonodjaaaGreatDoor.Obs
set_option linter.unusedVariables false
set_option linter.unusedSimpArgs false

theorem eval_some (xs : List S57) (l : List S36) (h : l.length ≤ 100000) : merit_Eval.f xs l = some (evalX xs l) := by unfold merit_Eval.f; rw [if_pos h]
theorem rdB (l : List ByteArray) (i : Nat) (h : i < l.length) : rdOf ByteArray.empty l (i : Int) = l[i] := by
  show l.getD i _ = _
  rw [List.getD_eq_getElem?_getD, List.getElem?_eq_getElem h]; rfl
theorem mv_l2 (xs : List S57) (l : List S36) (names : List ByteArray) (q : Nat) (hq : q < names.length) (hl : l.length ≤ 1000)
    (h : evalX xs (l.filter fun v => !decide (v.f0.toList = (names[q]).toList)) = (0, 7) ∨ evalX xs (l.filter fun v => !decide (v.f0.toList = (names[q]).toList)) = (0, 9)) :
    ∀ (d i : Nat), i + d = l.length → EvS (fun k => observatorylaw23_MeritVariables.l2 k xs l true names (q : Int) ((l.take i).filter fun v => !decide (v.f0.toList = (names[q]).toList)) (i : Int)) true := by
  intro d
  induction d with
  | zero =>
    intro i hi
    refine EvS.some (fun k => ?_)
    simp only [observatorylaw23_MeritVariables.l2]
    rw [if_neg (by omega), List.take_of_length_le (by omega), eval_some _ _ (by have := List.length_filter_le (fun v : S36 => !decide (v.f0.toList = (names[q]).toList)) l; omega)]
    rcases h with h | h
    · rw [h]; rfl
    · rw [h]; rfl
  | succ d ih =>
    intro i hi
    have hil : i < l.length := by omega
    refine EvS.step (h := fun k => observatorylaw23_MeritVariables.l2 k xs l true names (q : Int) ((l.take (i + 1)).filter fun v => !decide (v.f0.toList = (names[q]).toList)) ((i + 1 : Nat) : Int)) (fun k => ?_) (ih (i + 1) (by omega))
    simp only [observatorylaw23_MeritVariables.l2]
    rw [if_pos (by omega), if_pos (by omega), if_pos (by omega), if_pos (by omega), rdV l i hil, rdB names q hq, wrap_nat i (by omega), List.take_succ_eq_append_getElem hil, List.filter_append]
    have hfl := List.length_filter_le (fun v : S36 => !decide (v.f0.toList = (names[q]).toList)) (l.take i)
    rw [List.length_take] at hfl
    by_cases he : (l[i]).f0.toList = (names[q]).toList
    · rw [if_pos he, List.filter_cons_of_neg (by simp [he]), List.filter_nil, List.append_nil]
    · rw [if_neg he, List.filter_cons_of_pos (by simp [he]), List.filter_nil]
      simp only [Option.bind_some]
      rw [if_pos (by rw [List.length_singleton]; omega)]
theorem mv_j5 (xs : List S57) (l : List S36) (names : List ByteArray) (a3 : Int) (ha : 0 ≤ a3 ∧ a3 ≤ 255) (hl : l.length ≤ 1000) (hn : names.length ≤ 1000)
    (h : ∀ q (hq : q < names.length), evalX xs (l.filter fun v => !decide (v.f0.toList = (names[q]).toList)) = (0, 7) ∨ evalX xs (l.filter fun v => !decide (v.f0.toList = (names[q]).toList)) = (0, 9)) :
    EvS (fun k => observatorylaw23_MeritVariables.j5 k xs l a3 true names false) true := by
  by_cases h0 : names.length = 0
  · refine EvS.some (fun k => ?_)
    simp only [observatorylaw23_MeritVariables.j5]
    rw [if_neg (by decide), if_pos (by omega)]
  · have hw : wrap64 a3 = a3 := by unfold wrap64; omega
    have hm : Int.tmod a3 (names.length : Int) = ((a3.toNat % names.length : Nat) : Int) := by
      obtain ⟨n, rfl⟩ : ∃ n : Nat, a3 = n := ⟨a3.toNat, by omega⟩
      rfl
    have hq : a3.toNat % names.length < names.length := Nat.mod_lt _ (by omega)
    refine EvS.step (h := fun k => observatorylaw23_MeritVariables.l2 k xs l true names ((a3.toNat % names.length : Nat) : Int) ((l.take 0).filter fun v => !decide (v.f0.toList = (names[a3.toNat % names.length]).toList)) ((0 : Nat) : Int)) (fun k => ?_) (mv_l2 xs l names _ hq hl (h _ hq) l.length 0 (by omega))
    simp only [observatorylaw23_MeritVariables.j5]
    rw [if_neg (by decide), if_neg (by omega), hw, hm]
    rfl
theorem mv_j4 (xs : List S57) (l : List S36) (names : List ByteArray) (a3 : Int) (b : List S36) (hb : b.length ≤ 100000) (he : evalX xs b = evalX xs l)
    (h5 : EvS (fun k => observatorylaw23_MeritVariables.j5 k xs l a3 true names false) true) : EvS (fun k => observatorylaw23_MeritVariables.j4 k xs l a3 true names (evalX xs l).1 (evalX xs l).2 b) true := by
  refine EvS.step (h := fun k => observatorylaw23_MeritVariables.j5 k xs l a3 true names false) (fun k => ?_) h5
  simp only [observatorylaw23_MeritVariables.j4]
  rw [eval_some xs b hb, he]
  simp only [Option.bind_some]
  rw [if_pos trivial, bne_self_eq_false]
theorem mv_l1 (xs : List S57) (l : List S36) (names : List ByteArray) (a3 : Int) (n0 : ByteArray) (v0 : Int) (hl : l.length ≤ 12) (hls : ∀ v ∈ l, v.f0.size ≤ 40) (hn : names.length ≤ 1000) (hn0 : n0.size ≤ 9223372036854775807)
    (h5 : EvS (fun k => observatorylaw23_MeritVariables.j5 k xs l a3 true names false) true) (hback : evalX xs l.reverse = evalX xs l)
    (hmore : (∀ s ∈ names, s.toList ≠ n0.toList) → (valsM (l.reverse ++ [⟨n0, v0⟩]) []).isSome = true → evalX xs (l.reverse ++ [⟨n0, v0⟩]) = evalX xs l) :
    ∀ (d i : Nat) (b : Bool), i + d = names.length → (b = false → ∀ s ∈ names.take i, s.toList ≠ n0.toList) →
      EvS (fun k => observatorylaw23_MeritVariables.l1 k xs l a3 true names (evalX xs l).1 (evalX xs l).2 l.reverse b (i : Int) n0 v0) true := by
  have hr : l.reverse.length = l.length := List.length_reverse
  have j4b := mv_j4 xs l names a3 l.reverse (by omega) hback h5
  have j3f : EvS (fun k => observatorylaw23_MeritVariables.j3 k xs l a3 true names (evalX xs l).1 (evalX xs l).2 l.reverse (l.reverse ++ [⟨n0, v0⟩]) false) true :=
    EvS.step (h := fun k => observatorylaw23_MeritVariables.j4 k xs l a3 true names (evalX xs l).1 (evalX xs l).2 l.reverse) (fun k => by simp only [observatorylaw23_MeritVariables.j3]; rw [if_neg (by decide)]) j4b
  intro d
  induction d with
  | zero =>
    intro i b hi hb
    have hun : ∀ k, observatorylaw23_MeritVariables.l1 (k + 1) xs l a3 true names (evalX xs l).1 (evalX xs l).2 l.reverse b (i : Int) n0 v0 =
        if b = true then observatorylaw23_MeritVariables.j3 k xs l a3 true names (evalX xs l).1 (evalX xs l).2 l.reverse (l.reverse ++ [⟨n0, v0⟩]) false
        else (observatoryref23_Valid.f k (l.reverse ++ [⟨n0, v0⟩])).bind fun t => if t = true then observatorylaw23_MeritVariables.j3 k xs l a3 true names (evalX xs l).1 (evalX xs l).2 l.reverse (l.reverse ++ [⟨n0, v0⟩]) (decide ((n0.size : Int) ≤ 40)) else observatorylaw23_MeritVariables.j3 k xs l a3 true names (evalX xs l).1 (evalX xs l).2 l.reverse (l.reverse ++ [⟨n0, v0⟩]) false := by
      intro k
      simp only [observatorylaw23_MeritVariables.l1]
      rw [if_neg (by omega)]
      simp only [Option.bind_some, List.nil_append]
      rw [if_pos (by rw [List.length_nil]; omega), if_pos (by rw [List.length_singleton]; omega)]
    cases b with
    | true => exact EvS.step (h := fun k => observatorylaw23_MeritVariables.j3 k xs l a3 true names (evalX xs l).1 (evalX xs l).2 l.reverse (l.reverse ++ [⟨n0, v0⟩]) false) (fun k => by rw [hun, if_pos rfl]) j3f
    | false =>
      have hb' := hb rfl
      rw [List.take_of_length_le (by omega)] at hb'
      have hv := v23 (l.reverse ++ [⟨n0, v0⟩]) (by rw [List.length_append, List.length_singleton]; omega) (fun v hv => by
        rcases List.mem_append.1 hv with hv | hv
        · have := hls v (List.mem_reverse.1 hv); omega
        · rw [List.mem_singleton.1 hv]; exact hn0)
      refine EvS.bind hv (h := fun k t n => if t = true then observatorylaw23_MeritVariables.j3 n xs l a3 true names (evalX xs l).1 (evalX xs l).2 l.reverse (l.reverse ++ [⟨n0, v0⟩]) (decide ((n0.size : Int) ≤ 40)) else observatorylaw23_MeritVariables.j3 n xs l a3 true names (evalX xs l).1 (evalX xs l).2 l.reverse (l.reverse ++ [⟨n0, v0⟩]) false) (fun k => by rw [hun, if_neg (by decide)]) ?_
      cases hq : (valsM (l.reverse ++ [⟨n0, v0⟩]) []).isSome with
      | false =>
        simp only [Bool.false_eq_true, if_false]
        exact j3f
      | true =>
        simp only [if_true]
        by_cases h40 : (n0.size : Int) ≤ 40
        · rw [decide_eq_true h40]
          exact EvS.step (h := fun k => observatorylaw23_MeritVariables.j4 k xs l a3 true names (evalX xs l).1 (evalX xs l).2 (l.reverse ++ [⟨n0, v0⟩])) (fun k => by simp only [observatorylaw23_MeritVariables.j3]; rw [if_pos trivial]) (mv_j4 xs l names a3 _ (by rw [List.length_append, List.length_singleton]; omega) (hmore hb' hq) h5)
        · rw [decide_eq_false h40]
          exact j3f
  | succ d ih =>
    intro i b hi hb
    have hil : i < names.length := by omega
    cases b with
    | true =>
      refine EvS.step (h := fun k => observatorylaw23_MeritVariables.l1 k xs l a3 true names (evalX xs l).1 (evalX xs l).2 l.reverse true ((i + 1 : Nat) : Int) n0 v0) (fun k => ?_) (ih (i + 1) true (by omega) (fun h => by cases h))
      simp only [observatorylaw23_MeritVariables.l1]
      rw [if_pos (by omega), if_pos trivial, wrap_nat i (by omega)]
    | false =>
      refine EvS.step (h := fun k => observatorylaw23_MeritVariables.l1 k xs l a3 true names (evalX xs l).1 (evalX xs l).2 l.reverse ((names[i]).toList == n0.toList) ((i + 1 : Nat) : Int) n0 v0) (fun k => ?_) (ih (i + 1) _ (by omega) (fun h s hs => ?_))
      · simp only [observatorylaw23_MeritVariables.l1]
        rw [if_pos (by omega), if_neg (by decide), if_pos (by omega), wrap_nat i (by omega), rdB names i hil]
      · rw [List.take_succ_eq_append_getElem hil] at hs
        rcases List.mem_append.1 hs with hs | hs
        · exact hb rfl s hs
        · rw [List.mem_singleton.1 hs]
          exact beq_eq_false_iff_ne.1 h
theorem mv_l0 (xs : List S57) (l : List S36) (names : List ByteArray) (a3 : Int) (n0 : ByteArray) (v0 : Int) (hl : l.length ≤ 12)
    (h1 : EvS (fun k => observatorylaw23_MeritVariables.l1 k xs l a3 true names (evalX xs l).1 (evalX xs l).2 l.reverse false ((0 : Nat) : Int) n0 v0) true) :
    ∀ (d : Nat), d ≤ l.length → EvS (fun k => observatorylaw23_MeritVariables.l0 k xs l a3 true names (evalX xs l).1 (evalX xs l).2 (l.drop d).reverse ((d : Int) - 1) n0 v0) true := by
  intro d
  induction d with
  | zero =>
    intro _
    refine EvS.step (h := fun k => observatorylaw23_MeritVariables.l1 k xs l a3 true names (evalX xs l).1 (evalX xs l).2 l.reverse false ((0 : Nat) : Int) n0 v0) (fun k => ?_) h1
    simp only [observatorylaw23_MeritVariables.l0]
    rw [if_neg (by omega), List.drop_zero]
    rfl
  | succ d ih =>
    intro hd
    have hdl : d < l.length := by omega
    refine EvS.step (h := fun k => observatorylaw23_MeritVariables.l0 k xs l a3 true names (evalX xs l).1 (evalX xs l).2 (l.drop d).reverse ((d : Int) - 1) n0 v0) (fun k => ?_) (ih (by omega))
    have hi : ((d + 1 : Nat) : Int) - 1 = (d : Int) := by omega
    have hw : wrap64 ((d : Int) - 1) = (d : Int) - 1 := by unfold wrap64; omega
    simp only [observatorylaw23_MeritVariables.l0]
    rw [hi, if_pos (by omega), if_pos (by omega), if_pos (by omega), rdV l d hdl, hw]
    simp only [Option.bind_some]
    rw [if_pos (by rw [List.length_reverse, List.length_drop, List.length_singleton]; omega), List.drop_eq_getElem_cons hdl, List.reverse_cons]
theorem mv_guard (xs : List S57) (l : List S36) (a3 : Int) (n0 : ByteArray) (v0 : Int) : EvS (fun k => observatorylaw23_MeritVariables.j0 k xs l a3 true true n0 v0) true :=
  EvS.some (fun k => by simp only [observatorylaw23_MeritVariables.j0]; rw [if_pos trivial])
theorem bytes_list (s : ByteArray) : s.toList = s.data.toList := ByteArray.toList_eq s
theorem mv_body (xs : List S57) (l : List S36) (a3 : Int) (n0 : ByteArray) (v0 : Int) (ha : 0 ≤ a3 ∧ a3 ≤ 255) (hl : l.length ≤ 12) (hls : ∀ v ∈ l, v.f0.size ≤ 40) (hn0 : n0.size ≤ 9223372036854775807) (hv : validX xs = true) (hm : (valsM l []).isSome = true) :
    EvS (fun k => observatorylaw23_MeritVariables.j0 k xs l a3 true false n0 v0) true := by
  have hg := vals_isSome l hm
  have hmem : ∀ s ∈ (namesX xs).map bytesL, s.data.toList ∈ namesL xs := by
    intro s hs
    obtain ⟨x, hx, rfl⟩ := List.mem_map.1 hs
    exact (mem_namesX xs x).1 hx
  have hall : ∀ s ∈ namesL xs, ∃ b ∈ (namesX xs).map bytesL, b.data.toList = s := fun s hs => ⟨bytesL s, List.mem_map.2 ⟨s, (mem_namesX xs s).2 hs, rfl⟩, rfl⟩
  have hlen : ((namesX xs).map bytesL).length ≤ 1000 := by
    have h1 := Lib.compact_length_le (sortedL (namesL xs))
    have h2 := sortedL_len (namesL xs)
    have h3 := namesL_len xs
    have h4 := (valid_len xs hv).2
    rw [List.length_map]
    show (Lib.compact (sortedL (namesL xs))).length ≤ 1000
    omega
  have h5 := mv_j5 xs l ((namesX xs).map bytesL) a3 ha (by omega) hlen (fun q hq => by
    refine evalX_lacks xs _ hv (good_filter l _ hg) _ (hmem _ (List.getElem_mem hq)) (fun v hvm he => ?_)
    have := (List.mem_filter.1 hvm).2
    simp only [Bool.not_eq_true', decide_eq_false_iff_not] at this
    exact this (by rw [bytes_list, bytes_list]; exact he))
  have hback := evalX_agree xs l l.reverse hv hg (good_rev l hg) (fun s hs v he => List.mem_reverse.symm)
  have hmore : (∀ s ∈ (namesX xs).map bytesL, s.toList ≠ n0.toList) → (valsM (l.reverse ++ [⟨n0, v0⟩]) []).isSome = true → evalX xs (l.reverse ++ [⟨n0, v0⟩]) = evalX xs l := by
    intro hne hs
    refine evalX_agree xs l _ hv hg (vals_isSome _ hs) (fun s hs v he => ?_)
    rw [List.mem_append, List.mem_reverse, List.mem_singleton]
    constructor
    · exact .inl
    · rintro (h | h)
      · exact h
      · exfalso
        obtain ⟨b, hb, hbs⟩ := hall s hs
        refine hne b hb ?_
        rw [bytes_list, bytes_list, hbs, ← he, h]
        rfl
  have h1 := mv_l1 xs l ((namesX xs).map bytesL) a3 n0 v0 hl hls hlen hn0 h5 hback hmore ((namesX xs).map bytesL).length 0 false (by omega) (fun _ s hs => by rw [List.take_zero] at hs; cases hs)
  have h0 := mv_l0 xs l ((namesX xs).map bytesL) a3 n0 v0 hl h1 l.length (Nat.le_refl _)
  refine EvS.step (h := fun k => observatorylaw23_MeritVariables.l0 k xs l a3 true ((namesX xs).map bytesL) (evalX xs l).1 (evalX xs l).2 (l.drop l.length).reverse ((l.length : Int) - 1) n0 v0) (fun k => ?_) h0
  have hw : wrap64 ((l.length : Int) - 1) = (l.length : Int) - 1 := by unfold wrap64; omega
  have hnf : expr_Names.f xs = some ((namesX xs).map bytesL, 0) := by unfold expr_Names.f; rw [if_pos hv]
  simp only [observatorylaw23_MeritVariables.j0]
  rw [if_neg (by decide), hnf, eval_some xs l (by omega)]
  simp only [Option.bind_some]
  rw [if_pos trivial, hw, List.drop_length]
  rfl
theorem mv_true (xs : List S57) (l : List S36) (a3 : Int) (n0 : ByteArray) (v0 : Int) (ha : 0 ≤ a3 ∧ a3 ≤ 255) (hn0 : n0.size ≤ 9223372036854775807) : ∃ k, observatorylaw23_MeritVariables.f k xs l n0 v0 a3 = some true := by
  have hh : observatorylaw23_head.f = some true := rfl
  obtain ⟨r, ⟨K1, h1⟩, hf⟩ := few_all xs l
  obtain ⟨K0, h0⟩ := mv_guard xs l a3 n0 v0
  have h1 : ∀ k, K1 ≤ k → observatorylaw23_few.f k xs l = some r := h1
  cases r with
  | false =>
    refine ⟨max K1 K0, ?_⟩
    unfold observatorylaw23_MeritVariables.f
    rw [hh, Option.bind_some, h1 _ (by omega), Option.bind_some, if_neg (by decide)]
    exact h0 _ (by omega)
  | true =>
    obtain ⟨⟨hl, _, _⟩, hls⟩ := hf rfl
    obtain ⟨K2, h2⟩ := v23 l (by omega) (fun v hv => by have := hls v hv; omega)
    have h2 : ∀ k, K2 ≤ k → observatoryref23_Valid.f k l = some (valsM l []).isSome := h2
    cases hm : (valsM l []).isSome with
    | false =>
      rw [hm] at h2
      refine ⟨max K1 (max K0 K2), ?_⟩
      unfold observatorylaw23_MeritVariables.f
      rw [hh, Option.bind_some, h1 _ (by omega), Option.bind_some, if_pos rfl, h2 _ (by omega), Option.bind_some, if_neg (by decide)]
      exact h0 _ (by omega)
    | true =>
      rw [hm] at h2
      cases hv : validX xs with
      | false =>
        refine ⟨max K1 (max K0 K2), ?_⟩
        unfold observatorylaw23_MeritVariables.f
        rw [hh, Option.bind_some, h1 _ (by omega), Option.bind_some, if_pos rfl, h2 _ (by omega), Option.bind_some, if_pos rfl]
        unfold expr_Valid.f
        rw [Option.bind_some, hv]
        exact h0 _ (by omega)
      | true =>
        obtain ⟨K3, h3⟩ := mv_body xs l a3 n0 v0 ha hl hls hn0 hv hm
        refine ⟨max K1 (max K3 K2), ?_⟩
        unfold observatorylaw23_MeritVariables.f
        rw [hh, Option.bind_some, h1 _ (by omega), Option.bind_some, if_pos rfl, h2 _ (by omega), Option.bind_some, if_pos rfl]
        unfold expr_Valid.f
        rw [Option.bind_some, hv]
        exact h3 _ (by omega)
theorem variables_calls (A0 : Option Addr) (c0 : Nat) (xs : List S57) (A1 : Option Addr) (c1 : Nat) (l : List S36) (n0 : ByteArray) (v0 : Int) (a3 : Int) (w : World) (h0 : Kd.C k57 w A0 xs.length xs) (hc0 : xs.length ≤ c0) (h1 : Kd.C k36 w A1 l.length l) (hc1 : l.length ≤ c1)
    (ha : 0 ≤ a3 ∧ a3 ≤ 255) (hn0 : n0.size ≤ 9223372036854775807) :
    Calls Tryz.prog 5 #[.slice A0 xs.length c0, .slice A1 l.length c1, .agg #[.string n0, .int .i64 v0], .int .u8 a3] w (HeadP w) := by
  obtain ⟨k, h⟩ := mv_true xs l a3 n0 v0 ha hn0
  exact observatorylaw23_MeritVariables.calls k A0 c0 xs A1 c1 l n0 v0 a3 true w h0 hc0 h1 hc1 h
end Go.Proofs.YtenecpmonodjaaaGreatDoor.PAll
