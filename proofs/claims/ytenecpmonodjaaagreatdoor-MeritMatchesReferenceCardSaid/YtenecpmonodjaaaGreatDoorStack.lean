/- An expression checked with a stack of operands (the reference's way): the same as valid. In Lean alone. -/
import Derived.Test.YtenecpmonodjaaaGreatDoorHValid
namespace Go.Proofs.YtenecpmonodjaaaGreatDoor.PAll
open Go.RowKit Go.Proofs.YtenecpmonodjaaaGreatDoorW.PrintWords Go.Proofs.YtenecpmonodjaaaGreatDoorW.PrintLast Go.Proofs.YtenecpmonodjaaaGreatDoorW.PrintMore
open Go.Proofs.YtenecpmonodjaaaGreatDoor.Obs
set_option linter.unusedVariables false
set_option linter.unusedSimpArgs false

def depthOf (dp : List Int) (ks : List Int) : Int := ks.foldl (fun d k => max d (dp.getD k.toNat 0 + 1)) 1
def refGo : List S57 → List Int → List Int → Option (List Int × List Int)
  | [], op, dp => some (op, dp)
  | x :: r, op, dp =>
    if formedB x = false then none
    else if x.f3.length > op.length then none
    else if x.f3 = op.drop (op.length - x.f3.length) then refGo r (op.take (op.length - x.f3.length) ++ [(dp.length : Int)]) (dp ++ [depthOf dp x.f3])
    else none
def refV (xs : List S57) : Bool :=
  if xs.length < 1 ∨ xs.length > 300 then false
  else match refGo xs [] [] with
    | none => false
    | some (op, dp) => decide (op.length = 1) && decide (dp.getD (xs.length - 1) 0 ≤ 40)

namespace T
def depths : T → List Int
  | num _ => [1]
  | name _ => [1]
  | neg a => a.depths ++ [a.depth + 1]
  | bin _ a b => a.depths ++ (b.depths ++ [max a.depth b.depth + 1])
  | ite a b c => a.depths ++ (b.depths ++ (c.depths ++ [max a.depth (max b.depth c.depth) + 1]))
theorem depths_len : ∀ t : T, t.depths.length = t.size
  | num _ => rfl
  | name _ => rfl
  | neg a => by simp [depths, size, depths_len a]
  | bin _ a b => by simp [depths, size, depths_len a, depths_len b]; omega
  | ite a b c => by simp [depths, size, depths_len a, depths_len b, depths_len c]; omega
theorem depths_last (t : T) : ∃ l, t.depths = l ++ [t.depth] := by
  cases t with
  | num n => exact ⟨[], rfl⟩
  | name s => exact ⟨[], rfl⟩
  | neg a => exact ⟨a.depths, rfl⟩
  | bin op a b => exact ⟨a.depths ++ b.depths, by simp [depths, depth]⟩
  | ite a b c => exact ⟨a.depths ++ (b.depths ++ c.depths), by simp [depths, depth]⟩
end T
theorem dp_at (t : T) (pre post : List Int) (i : Nat) (hi : i = pre.length + t.size) : (pre ++ (t.depths ++ post)).getD (((i : Nat) : Int) - 1).toNat 0 = t.depth := by
  obtain ⟨l, hl⟩ := t.depths_last
  have h1 := t.depths_len
  rw [hl, List.length_append, List.length_singleton] at h1
  rw [hl, show (((i : Nat) : Int) - 1).toNat = pre.length + l.length by omega]
  rw [List.append_assoc, ← List.append_assoc, List.getD_eq_getElem?_getD, List.getElem?_append_right (by rw [List.length_append]; exact Nat.le_refl _), List.length_append, Nat.sub_self]
  rfl
theorem depthOf_nil (dp : List Int) : depthOf dp [] = 1 := rfl
theorem depthOf_one (pre : List Int) (a : T) (i : Nat) (hi : i = pre.length + a.size) : depthOf (pre ++ a.depths) [((i : Nat) : Int) - 1] = a.depth + 1 := by
  have h := dp_at a pre [] i hi
  rw [List.append_nil] at h
  unfold depthOf
  simp only [List.foldl_cons, List.foldl_nil, h]
  have := a.depth_pos
  omega
theorem depthOf_two (pre : List Int) (a b : T) (i j : Nat) (hi : i = pre.length + a.size) (hj : j = pre.length + a.size + b.size) : depthOf (pre ++ (a.depths ++ b.depths)) [((i : Nat) : Int) - 1, ((j : Nat) : Int) - 1] = max a.depth b.depth + 1 := by
  have h1 := dp_at a pre b.depths i hi
  have h2 := dp_at b (pre ++ a.depths) [] j (by rw [List.length_append, a.depths_len]; omega)
  rw [List.append_nil, List.append_assoc] at h2
  unfold depthOf
  simp only [List.foldl_cons, List.foldl_nil, h1, h2]
  have := a.depth_pos
  have := b.depth_pos
  omega
theorem depthOf_three (pre : List Int) (a b c : T) (i j k : Nat) (hi : i = pre.length + a.size) (hj : j = pre.length + a.size + b.size) (hk : k = pre.length + a.size + b.size + c.size) :
    depthOf (pre ++ (a.depths ++ (b.depths ++ c.depths))) [((i : Nat) : Int) - 1, ((j : Nat) : Int) - 1, ((k : Nat) : Int) - 1] = max a.depth (max b.depth c.depth) + 1 := by
  have h1 := dp_at a pre (b.depths ++ c.depths) i hi
  have h2 := dp_at b (pre ++ a.depths) c.depths j (by rw [List.length_append, a.depths_len]; omega)
  have h3 := dp_at c (pre ++ a.depths ++ b.depths) [] k (by rw [List.length_append, List.length_append, a.depths_len, b.depths_len]; omega)
  rw [List.append_assoc] at h2
  rw [List.append_nil, List.append_assoc, List.append_assoc] at h3
  unfold depthOf
  simp only [List.foldl_cons, List.foldl_nil, h1, h2, h3]
  have := a.depth_pos
  have := b.depth_pos
  have := c.depth_pos
  omega

/-! ### a stack of trees -/
def sizeS : List T → Nat
  | [] => 0
  | t :: r => t.size + sizeS r
def flatS : List T → Nat → List S57
  | [], _ => []
  | t :: r, b => t.flat b ++ flatS r (b + t.size)
def rootsS : List T → Nat → List Int
  | [], _ => []
  | t :: r, b => (((b + t.size : Nat) : Int) - 1) :: rootsS r (b + t.size)
def depthsS : List T → List Int
  | [] => []
  | t :: r => t.depths ++ depthsS r
theorem roots_len : ∀ (ts : List T) (b : Nat), (rootsS ts b).length = ts.length
  | [], _ => rfl
  | t :: r, b => by simp [rootsS, roots_len r]
theorem depthsS_len : ∀ ts : List T, (depthsS ts).length = sizeS ts
  | [] => rfl
  | t :: r => by simp [depthsS, sizeS, depthsS_len r, t.depths_len]
theorem sizeS_app : ∀ (ts us : List T), sizeS (ts ++ us) = sizeS ts + sizeS us
  | [], us => by simp [sizeS]
  | t :: r, us => by simp [sizeS, sizeS_app r us]; omega
theorem flatS_app : ∀ (ts us : List T) (b : Nat), flatS (ts ++ us) b = flatS ts b ++ flatS us (b + sizeS ts)
  | [], us, b => by simp [flatS, sizeS]
  | t :: r, us, b => by simp [flatS, sizeS, flatS_app r us, Nat.add_assoc]
theorem rootsS_app : ∀ (ts us : List T) (b : Nat), rootsS (ts ++ us) b = rootsS ts b ++ rootsS us (b + sizeS ts)
  | [], us, b => by simp [rootsS, sizeS]
  | t :: r, us, b => by simp [rootsS, sizeS, rootsS_app r us, Nat.add_assoc]
theorem depthsS_app : ∀ (ts us : List T), depthsS (ts ++ us) = depthsS ts ++ depthsS us
  | [], us => by simp [depthsS]
  | t :: r, us => by simp [depthsS, depthsS_app r us]
/-- One more node: the stack's last trees go below it. -/
theorem push_tree (ts us : List T) (t : T) (x : S57) (hf : flatS us (sizeS ts) ++ [x] = t.flat (sizeS ts)) (hd : depthsS us ++ [depthOf (depthsS (ts ++ us)) x.f3] = t.depths) (hs : t.size = sizeS us + 1) :
    flatS (ts ++ us) 0 ++ [x] = flatS (ts ++ [t]) 0 ∧ rootsS ts 0 ++ [((depthsS (ts ++ us)).length : Int)] = rootsS (ts ++ [t]) 0 ∧ depthsS (ts ++ us) ++ [depthOf (depthsS (ts ++ us)) x.f3] = depthsS (ts ++ [t]) := by
  refine ⟨?_, ?_, ?_⟩
  · rw [flatS_app, flatS_app, Nat.zero_add, List.append_assoc, hf]
    simp [flatS]
  · rw [rootsS_app, Nat.zero_add, depthsS_len, sizeS_app]
    simp only [rootsS]
    rw [hs, show ((sizeS ts + (sizeS us + 1) : Nat) : Int) - 1 = ((sizeS ts + sizeS us : Nat) : Int) by omega]
  · rw [depthsS_app ts [t]]
    conv => lhs; lhs; rw [depthsS_app]
    rw [List.append_assoc, hd]
    simp [depthsS]
theorem split_last {α : Type} (l : List α) (n : Nat) (h : n ≤ l.length) : ∃ a b, l = a ++ b ∧ b.length = n ∧ a.length = l.length - n := ⟨l.take (l.length - n), l.drop (l.length - n), (List.take_append_drop _ _).symm, by rw [List.length_drop]; omega, by rw [List.length_take]; omega⟩
/-- The stack's check goes on: what it has seen are trees, one above the other. -/
theorem refGo_sound : ∀ (r : List S57) (ts : List T), (∀ t ∈ ts, t.ok) → ∀ op dp, refGo r (rootsS ts 0) (depthsS ts) = some (op, dp) →
    ∃ us : List T, (∀ t ∈ us, t.ok) ∧ flatS ts 0 ++ r = flatS us 0 ∧ op = rootsS us 0 ∧ dp = depthsS us
  | [], ts, hk, op, dp, h => by
    simp only [refGo] at h
    injection h with h
    injection h with h1 h2
    exact ⟨ts, hk, by rw [List.append_nil], h1.symm, h2.symm⟩
  | x :: r, ts, hk, op, dp, h => by
    simp only [refGo] at h
    split at h
    · cases h
    · rename_i hfo
      have hfo : formedB x = true := by cases hb : formedB x with
        | true => rfl
        | false => exact absurd hb hfo
      split at h
      · cases h
      · rename_i hl
        split at h
        · rename_i hd
          rw [roots_len] at hl hd h
          obtain ⟨tsa, us, rfl, hus, hta⟩ := split_last ts x.f3.length (by omega)
          rw [rootsS_app, Nat.zero_add] at hd h
          have hla : (tsa ++ us).length - x.f3.length = (rootsS tsa 0).length := by rw [roots_len, hta]
          rw [hla] at hd h
          rw [List.drop_left] at hd
          rw [List.take_left] at h
          have hka : ∀ t ∈ tsa, t.ok := fun t ht => hk t (List.mem_append_left _ ht)
          have hku : ∀ t ∈ us, t.ok := fun t ht => hk t (List.mem_append_right _ ht)
          obtain ⟨hops, hcase⟩ := (formed_iff x).1 hfo
          obtain ⟨x0, x1, x2, x3⟩ := x
          simp only at *
          have fin : ∀ t : T, t.ok → flatS us (sizeS tsa) ++ [(⟨x0, x1, x2, x3⟩ : S57)] = t.flat (sizeS tsa) → depthsS us ++ [depthOf (depthsS (tsa ++ us)) x3] = t.depths → t.size = sizeS us + 1 →
              ∃ us_1 : List T, (∀ t ∈ us_1, t.ok) ∧ flatS (tsa ++ us) 0 ++ (⟨x0, x1, x2, x3⟩ : S57) :: r = flatS us_1 0 ∧ op = rootsS us_1 0 ∧ dp = depthsS us_1 := by
            intro t hto hf hdp hsz
            obtain ⟨p1, p2, p3⟩ := push_tree tsa us t ⟨x0, x1, x2, x3⟩ hf hdp hsz
            rw [p2, p3] at h
            obtain ⟨vs, q1, q2, q3, q4⟩ := refGo_sound r (tsa ++ [t]) (fun u hu => by
              rcases List.mem_append.1 hu with hu | hu
              · exact hka u hu
              · rw [List.mem_singleton] at hu; subst hu; exact hto) op dp h
            refine ⟨vs, q1, ?_, q3, q4⟩
            rw [← q2, ← p1, List.append_assoc]
            rfl
          rcases ops_cases x0 with ⟨ho, hop⟩ | ⟨ho, hop⟩ | ⟨ho, hop⟩ | ⟨ho, hop⟩ | ho
          · rw [ho] at hops
            have h3 : x3 = [] := List.length_eq_zero_iff.1 (by omega)
            subst h3
            have hu0 : us = [] := List.length_eq_zero_iff.1 (by simpa using hus)
            subst hu0
            rcases hop with rfl | rfl
            · rcases hcase with ⟨_, rfl, h1, h2⟩ | ⟨hq, _⟩ | ⟨hq, _⟩
              · exact fin (.num x1) ⟨h1, h2⟩ rfl rfl rfl
              · exact absurd hq (by decide)
              · exact absurd rfl hq
            · rcases hcase with ⟨hq, _⟩ | ⟨_, rfl, h1⟩ | ⟨_, hq, _⟩
              · exact absurd hq (by decide)
              · exact fin (.name x2) h1 rfl rfl rfl
              · exact absurd rfl hq
          · subst hop
            rw [ho] at hops
            have e0 : x1 = 0 ∧ x2 = ⟨#[]⟩ := by rcases hcase with ⟨hq, _⟩ | ⟨hq, _⟩ | ⟨_, _, h1, h2⟩ <;> first | exact ⟨h1, h2⟩ | exact absurd hq (by decide)
            obtain ⟨rfl, rfl⟩ := e0
            match us, hus with
            | [a], _ =>
              simp only [rootsS] at hd
              subst hd
              refine fin (.neg a) (hku a (by simp)) (by simp [flatS, T.flat]) ?_ (by simp [sizeS, T.size])
              rw [depthsS_app]
              simp only [depthsS, List.append_nil]
              rw [depthOf_one (depthsS tsa) a _ (by rw [depthsS_len])]
              rfl
            | [], hus => simp at hus; omega
            | _ :: _ :: _, hus => simp at hus; omega
          · subst hop
            rw [ho] at hops
            have e0 : x1 = 0 ∧ x2 = ⟨#[]⟩ := by rcases hcase with ⟨hq, _⟩ | ⟨hq, _⟩ | ⟨_, _, h1, h2⟩ <;> first | exact ⟨h1, h2⟩ | exact absurd hq (by decide)
            obtain ⟨rfl, rfl⟩ := e0
            match us, hus with
            | [a, b, c], _ =>
              simp only [rootsS] at hd
              subst hd
              refine fin (.ite a b c) ⟨hku a (by simp), hku b (by simp), hku c (by simp)⟩ (by simp [flatS, T.flat]) ?_ (by simp [sizeS, T.size]; omega)
              rw [depthsS_app]
              simp only [depthsS, List.append_nil, List.append_assoc]
              rw [depthOf_three (depthsS tsa) a b c _ _ _ (by rw [depthsS_len]) (by rw [depthsS_len]) (by rw [depthsS_len])]
              rfl
            | [], hus => simp at hus; omega
            | [_], hus => simp at hus; omega
            | [_, _], hus => simp at hus; omega
            | _ :: _ :: _ :: _ :: _, hus => simp at hus; omega
          · rw [ho] at hops
            have e0 : x1 = 0 ∧ x2 = ⟨#[]⟩ := by rcases hcase with ⟨hq, _⟩ | ⟨hq, _⟩ | ⟨_, _, h1, h2⟩ <;> first | exact ⟨h1, h2⟩ | omega
            obtain ⟨rfl, rfl⟩ := e0
            match us, hus with
            | [a, b], _ =>
              simp only [rootsS] at hd
              subst hd
              refine fin (.bin x0 a b) ⟨ho, hku a (by simp), hku b (by simp)⟩ (by simp [flatS, T.flat]) ?_ (by simp [sizeS, T.size])
              rw [depthsS_app]
              simp only [depthsS, List.append_nil, List.append_assoc]
              rw [depthOf_two (depthsS tsa) a b _ _ (by rw [depthsS_len]) (by rw [depthsS_len])]
              rfl
            | [], hus => simp at hus; omega
            | [_], hus => simp at hus; omega
            | _ :: _ :: _ :: _, hus => simp at hus; omega
          · omega
        · cases h
/-- A tree goes through the check, and lies on the stack. -/
theorem refGo_flat : ∀ (t : T), t.ok → ∀ (ts : List T) (rest : List S57), refGo (t.flat (sizeS ts) ++ rest) (rootsS ts 0) (depthsS ts) = refGo rest (rootsS (ts ++ [t]) 0) (depthsS (ts ++ [t])) := by
  have one : ∀ (ts us : List T) (t : T) (x : S57) (rest : List S57), formedB x = true → x.f3 = rootsS us (sizeS ts) → flatS us (sizeS ts) ++ [x] = t.flat (sizeS ts) → depthsS us ++ [depthOf (depthsS (ts ++ us)) x.f3] = t.depths → t.size = sizeS us + 1 →
      refGo (x :: rest) (rootsS (ts ++ us) 0) (depthsS (ts ++ us)) = refGo rest (rootsS (ts ++ [t]) 0) (depthsS (ts ++ [t])) := by
    intro ts us t x rest hfo h3 hf hd hs
    obtain ⟨p1, p2, p3⟩ := push_tree ts us t x hf hd hs
    have hl3 : x.f3.length = us.length := by rw [h3, roots_len]
    simp only [refGo]
    rw [hfo, if_neg (by decide), if_neg (by rw [roots_len, List.length_append]; omega)]
    have hla : (rootsS (ts ++ us) 0).length - x.f3.length = (rootsS ts 0).length := by rw [roots_len, roots_len, List.length_append]; omega
    rw [hla, rootsS_app, Nat.zero_add, List.drop_left, List.take_left, if_pos h3, p2, p3]
  intro t
  induction t with
  | num n =>
    intro hk ts rest
    have := one ts [] (.num n) ⟨1, n, ⟨#[]⟩, []⟩ rest ((formed_iff _).2 ⟨rfl, .inl ⟨rfl, rfl, hk.1, hk.2⟩⟩) rfl rfl rfl rfl
    rw [List.append_nil] at this
    exact this
  | name s =>
    intro hk ts rest
    have := one ts [] (.name s) ⟨2, 0, s, []⟩ rest ((formed_iff _).2 ⟨rfl, .inr (.inl ⟨rfl, rfl, hk⟩)⟩) rfl rfl rfl rfl
    rw [List.append_nil] at this
    exact this
  | neg a iha =>
    intro hk ts rest
    simp only [T.flat, List.append_assoc, List.singleton_append]
    rw [iha hk ts]
    refine one ts [a] (.neg a) _ rest ((formed_iff _).2 ⟨rfl, .inr (.inr ⟨by show (12 : Int) ≠ 1; decide, by show (12 : Int) ≠ 2; decide, rfl, rfl⟩)⟩) rfl (by simp [flatS, T.flat]) ?_ (by simp [sizeS, T.size])
    rw [depthsS_app]
    simp only [depthsS, List.append_nil]
    rw [depthOf_one (depthsS ts) a _ (by rw [depthsS_len])]
    rfl
  | bin op a b iha ihb =>
    intro hk ts rest
    simp only [T.flat, List.append_assoc, List.singleton_append]
    rw [iha hk.2.1 ts]
    have hb := ihb hk.2.2 (ts ++ [a])
    rw [show sizeS (ts ++ [a]) = sizeS ts + a.size by rw [sizeS_app]; rfl] at hb
    rw [hb, List.append_assoc]
    have hne := ops_cases op
    have ho := hk.1
    refine one ts [a, b] (.bin op a b) _ rest ((formed_iff _).2 ⟨ho, .inr (.inr ⟨by show op ≠ 1; rcases hne with h | h | h | h | h <;> omega, by show op ≠ 2; rcases hne with h | h | h | h | h <;> omega, rfl, rfl⟩)⟩) rfl (by simp [flatS, T.flat]) ?_ (by simp [sizeS, T.size])
    show depthsS [a, b] ++ [depthOf (depthsS (ts ++ [a, b])) _] = _
    rw [depthsS_app]
    simp only [depthsS, List.append_nil, List.append_assoc]
    rw [depthOf_two (depthsS ts) a b _ _ (by rw [depthsS_len]) (by rw [depthsS_len])]
    rfl
  | ite a b c iha ihb ihc =>
    intro hk ts rest
    simp only [T.flat, List.append_assoc, List.singleton_append]
    rw [iha hk.1 ts]
    have hb := ihb hk.2.1 (ts ++ [a])
    rw [show sizeS (ts ++ [a]) = sizeS ts + a.size by rw [sizeS_app]; rfl] at hb
    rw [hb, List.append_assoc]
    have hc := ihc hk.2.2 (ts ++ [a, b])
    rw [show sizeS (ts ++ [a, b]) = sizeS ts + a.size + b.size by rw [sizeS_app]; simp [sizeS]; omega] at hc
    rw [show [a] ++ [b] = [a, b] from rfl, hc, List.append_assoc]
    refine one ts [a, b, c] (.ite a b c) _ rest ((formed_iff _).2 ⟨rfl, .inr (.inr ⟨by show (9 : Int) ≠ 1; decide, by show (9 : Int) ≠ 2; decide, rfl, rfl⟩)⟩) rfl (by simp [flatS, T.flat]) ?_ (by simp [sizeS, T.size]; omega)
    show depthsS [a, b, c] ++ [depthOf (depthsS (ts ++ [a, b, c])) _] = _
    rw [depthsS_app]
    simp only [depthsS, List.append_nil, List.append_assoc]
    rw [depthOf_three (depthsS ts) a b c _ _ _ (by rw [depthsS_len]) (by rw [depthsS_len]) (by rw [depthsS_len])]
    rfl
/-- The reference's check is the program's. -/
theorem refV_valid (xs : List S57) : refV xs = validX xs := by
  cases hr : refV xs with
  | true =>
    symm
    unfold refV at hr
    split at hr
    · cases hr
    · rename_i hlen
      cases hg : refGo xs [] [] with
      | none => rw [hg] at hr; cases hr
      | some p =>
        obtain ⟨op, dp⟩ := p
        rw [hg] at hr
        simp only [Bool.and_eq_true, decide_eq_true_eq] at hr
        obtain ⟨us, hk, hf, rfl, rfl⟩ := refGo_sound xs [] (fun _ h => by cases h) op dp hg
        rw [roots_len] at hr
        match us, hr with
        | [t], hr =>
          simp only [flatS, List.append_nil, List.nil_append] at hf
          have hsz : xs.length = t.size := by rw [hf, T.flat_len]
          have hd := hr.2
          have hdl : (depthsS [t]).getD (xs.length - 1) 0 = t.depth := by
            have := dp_at t [] [] t.size (by simp)
            simp only [depthsS, List.append_nil, List.nil_append] at this ⊢
            rw [show xs.length - 1 = ((t.size : Int) - 1).toNat by omega]
            exact this
          rw [hdl] at hd
          exact (valid_iff xs).2 ⟨t, ⟨hk t (by simp), hd, by omega⟩, hf⟩
        | [], hr => exact absurd hr.1 (by decide)
        | _ :: _ :: _, hr => have := hr.1; simp at this
  | false =>
    cases hv : validX xs with
    | false => rfl
    | true =>
      exfalso
      obtain ⟨t, ⟨hk, hd, hs⟩, hf⟩ := (valid_iff xs).1 hv
      have hg := refGo_flat t hk [] []
      rw [List.append_nil] at hg
      have hsz : xs.length = t.size := by rw [hf, T.flat_len]
      have hp := t.size_pos
      have hdl : (depthsS [t]).getD (xs.length - 1) 0 = t.depth := by
        have := dp_at t [] [] t.size (by simp)
        simp only [depthsS, List.append_nil, List.nil_append] at this ⊢
        rw [show xs.length - 1 = ((t.size : Int) - 1).toNat by omega]
        exact this
      have hg' : refGo xs [] [] = some (rootsS [t] 0, depthsS [t]) := by rw [hf]; exact hg
      unfold refV at hr
      rw [if_neg (by omega), hg'] at hr
      simp only [hdl, roots_len] at hr
      rw [decide_eq_true hd] at hr
      cases hr
end Go.Proofs.YtenecpmonodjaaaGreatDoor.PAll
