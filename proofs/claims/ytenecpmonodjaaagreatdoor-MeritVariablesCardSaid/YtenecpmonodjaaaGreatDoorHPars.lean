/- What the parser of expressions does, in Lean alone; and the words on its memory. -/
import Derived.Test.YtenecpmonodjaaaGreatDoorHOps
import Derived.Test.YtenecpmonodjaaaGreatDoorHValid
namespace Go.Proofs.YtenecpmonodjaaaGreatDoor.PAll
open Go.RowKit Go.Proofs.YtenecpmonodjaaaGreatDoorW.PrintWords Go.Proofs.YtenecpmonodjaaaGreatDoorW.PrintLast Go.Proofs.YtenecpmonodjaaaGreatDoorW.PrintMore
open Go.Proofs.YtenecpmonodjaaaGreatDoor.Obs
set_option linter.unusedVariables false
set_option linter.unusedSimpArgs false

def strengthZ (op : Int) : Int := if op = 10 ∨ op = 11 then 1 else if op = 3 ∨ op = 4 then 2 else if op = 5 ∨ op = 6 then 3 else if op = 12 then 4 else 5
/-- Is the token with the index j this symbol? -/
def seesP (ts : List Tok) (j : Nat) (s : List UInt8) : Bool := match ts[j]? with
  | some t => t.k == 4 && t.t == s
  | none => false
inductive PR where
  | stop
  | fail (e a : Int)
  | ok (ts : List Tok) (out : List S57) (i : Int)
/-- Fails at the next token, or at the end. -/
def failP (ende : Int) (e : Int) (ts : List Tok) : PR := match ts with
  | [] => .fail 6 ende
  | t :: _ => .fail e t.a
inductive AR where
  | stop
  | fail (e a : Int)
  | ok (ts : List Tok) (out : List S57) (kids : List Int)
def AR.of : PR → AR
  | .stop => .stop
  | .fail e a => .fail e a
  | .ok ts out i => .ok ts out [i]

/-- The modes: a level, a level's loop (with the index that it has), a primary. -/
inductive Md where
  | lvl (least : Int)
  | loop (least : Int) (a : Int)
  | prim
def PR.bind (r : PR) (g : List Tok → List S57 → Int → PR) : PR := match r with
  | .stop => .stop
  | .fail e a => .fail e a
  | .ok ts out i => g ts out i
def PR.bindA (r : PR) (g : List Tok → List S57 → Int → AR) : AR := match r with
  | .stop => .stop
  | .fail e a => .fail e a
  | .ok ts out i => g ts out i
def AR.bind (r : AR) (g : List Tok → List S57 → List Int → PR) : PR := match r with
  | .stop => .stop
  | .fail e a => .fail e a
  | .ok ts out i => g ts out i
mutual
def parseP (ende : Int) : Nat → Md → List Tok → List S57 → PR
  | 0, _, _, _ => .stop
  | f + 1, .lvl least, ts, out =>
    if least = 4 then
      (if seesP ts 0 [45] = true then (parseP ende f (.lvl 4) ts.tail out).bind fun ts' out' i => .ok ts' (out' ++ [⟨12, 0, ⟨#[]⟩, [i]⟩]) out'.length
       else parseP ende f .prim ts out)
    else (parseP ende f (.lvl (least + 1)) ts out).bind fun ts' out' a => parseP ende f (.loop least a) ts' out'
  | f + 1, .loop least a, ts, out => (match ts with
    | [] => .ok [] out a
    | t :: r => if t.k = 4 then
        (if (lookM infixL t.t).getD 0 = 0 ∨ strengthZ ((lookM infixL t.t).getD 0) ≠ least then .ok (t :: r) out a else
          (parseP ende f (.lvl (least + 1)) r out).bind fun ts' out' b =>
            if least = 1 then .ok ts' (out' ++ [⟨(lookM infixL t.t).getD 0, 0, ⟨#[]⟩, [a, b]⟩]) out'.length
            else parseP ende f (.loop least out'.length) ts' (out' ++ [⟨(lookM infixL t.t).getD 0, 0, ⟨#[]⟩, [a, b]⟩]))
      else .ok (t :: r) out a)
  | f + 1, .prim, ts, out =>
    if seesP ts 0 [40] = true then (parseP ende f (.lvl 1) ts.tail out).bind fun ts' out' a => if seesP ts' 0 [41] = true then .ok ts'.tail out' a else failP ende 5 ts'
    else (match ts with
    | [] => failP ende 5 []
    | t :: r =>
      if t.k ≠ 2 ∧ t.k ≠ 1 then failP ende 5 (t :: r)
      else if t.k = 2 ∧ 1000000 < t.n then failP ende 9 (t :: r)
      else if t.k = 2 then .ok r (out ++ [⟨1, t.n, ⟨#[]⟩, []⟩]) out.length
      else if (lookM functionsL t.t).getD 0 = 0 ∧ seesP (t :: r) 1 [40] = true then failP ende 7 (t :: r)
      else if (lookM functionsL t.t).getD 0 = 0 then .ok r (out ++ [⟨2, 0, ⟨t.t.toArray⟩, []⟩]) out.length
      else (argsP ende f (opsZ ((lookM functionsL t.t).getD 0)).toNat true r out []).bind fun ts' out' kids =>
        if seesP ts' 0 [41] = true then .ok ts'.tail (out' ++ [⟨(lookM functionsL t.t).getD 0, 0, ⟨#[]⟩, kids⟩]) out'.length else failP ende 5 ts')
/-- n more arguments, each behind its sign. -/
def argsP (ende : Int) : Nat → Nat → Bool → List Tok → List S57 → List Int → AR
  | 0, _, _, _, _, _ => .stop
  | f + 1, 0, _, ts, out, kids => .ok ts out kids
  | f + 1, n + 1, first, ts, out, kids =>
    if seesP ts 0 (if first then [40] else [44]) = true then (parseP ende f (.lvl 1) ts.tail out).bindA fun ts' out' i => argsP ende f n false ts' out' (kids ++ [i])
    else AR.of (failP ende 5 ts)
end

theorem PR.bind_ok {r : PR} {g : List Tok → List S57 → Int → PR} {ts : List Tok} {out : List S57} {i : Int} (h : r.bind g = .ok ts out i) : ∃ ts1 out1 i1, r = .ok ts1 out1 i1 ∧ g ts1 out1 i1 = .ok ts out i := by
  cases r with
  | stop => cases h
  | fail e a => cases h
  | ok ts1 out1 i1 => exact ⟨ts1, out1, i1, rfl, h⟩
theorem PR.bindA_ok {r : PR} {g : List Tok → List S57 → Int → AR} {ts : List Tok} {out : List S57} {i : List Int} (h : r.bindA g = .ok ts out i) : ∃ ts1 out1 i1, r = .ok ts1 out1 i1 ∧ g ts1 out1 i1 = .ok ts out i := by
  cases r with
  | stop => cases h
  | fail e a => cases h
  | ok ts1 out1 i1 => exact ⟨ts1, out1, i1, rfl, h⟩
theorem AR.bind_ok {r : AR} {g : List Tok → List S57 → List Int → PR} {ts : List Tok} {out : List S57} {i : Int} (h : r.bind g = .ok ts out i) : ∃ ts1 out1 i1, r = .ok ts1 out1 i1 ∧ g ts1 out1 i1 = .ok ts out i := by
  cases r with
  | stop => cases h
  | fail e a => cases h
  | ok ts1 out1 i1 => exact ⟨ts1, out1, i1, rfl, h⟩
theorem failP_ok {ende e : Int} {ts ts' : List Tok} {out : List S57} {i : Int} (h : failP ende e ts = .ok ts' out i) : False := by
  cases ts <;> cases h
theorem failA_ok {ende e : Int} {ts ts' : List Tok} {out : List S57} {i : List Int} (h : AR.of (failP ende e ts) = .ok ts' out i) : False := by
  cases ts <;> cases h
theorem sees_len {ts : List Tok} {s : List UInt8} (h : seesP ts 0 s = true) : ts.tail.length + 1 = ts.length := by
  cases ts with
  | nil => simp [seesP] at h
  | cons t r => rfl
theorem len_all (ende : Int) : ∀ f : Nat, (∀ (m : Md) (ts : List Tok) (out : List S57) (ts' : List Tok) (out' : List S57) (i : Int), parseP ende f m ts out = .ok ts' out' i → ts'.length ≤ ts.length ∧ ts'.length + out'.length ≤ ts.length + out.length) ∧
    (∀ (n : Nat) (b : Bool) (ts : List Tok) (out : List S57) (kids : List Int) (ts' : List Tok) (out' : List S57) (kids' : List Int), argsP ende f n b ts out kids = .ok ts' out' kids' → ts'.length ≤ ts.length ∧ ts'.length + out'.length ≤ ts.length + out.length)
  | 0 => ⟨fun m ts out ts' out' i h => (by cases h), fun n b ts out kids ts' out' kids' h => (by cases h)⟩
  | f + 1 => by
    obtain ⟨ih, iha⟩ := len_all ende f
    refine ⟨fun m ts out ts' out' i h => ?_, fun n b ts out kids ts' out' kids' h => ?_⟩
    · cases m with
      | lvl least =>
        rw [parseP] at h
        split at h
        · split at h
          · rename_i hs
            have h0 := sees_len hs
            obtain ⟨t1, o1, i1, h1, h2⟩ := PR.bind_ok h
            have h3 := ih _ _ _ _ _ _ h1
            injection h2 with e1 e2 e3
            subst e1; subst e2
            rw [List.length_append, List.length_singleton]
            omega
          · exact ih _ _ _ _ _ _ h
        · obtain ⟨t1, o1, i1, h1, h2⟩ := PR.bind_ok h
          have h3 := ih _ _ _ _ _ _ h1
          have h4 := ih _ _ _ _ _ _ h2
          omega
      | loop least a =>
        cases ts with
        | nil => rw [parseP] at h; injection h with e1 e2 e3; subst e1; subst e2; exact ⟨Nat.le_refl _, Nat.le_refl _⟩
        | cons t r =>
          rw [parseP] at h
          have hl : (t :: r).length = r.length + 1 := rfl
          split at h
          · split at h
            · injection h with e1 e2 e3; subst e1; subst e2; exact ⟨Nat.le_refl _, Nat.le_refl _⟩
            · obtain ⟨t1, o1, i1, h1, h2⟩ := PR.bind_ok h
              have h3 := ih _ _ _ _ _ _ h1
              (try simp only at h2)
              split at h2
              · injection h2 with e1 e2 e3
                subst e1; subst e2
                rw [List.length_append, List.length_singleton]
                omega
              · have h4 := ih _ _ _ _ _ _ h2
                rw [List.length_append, List.length_singleton] at h4
                omega
          · injection h with e1 e2 e3; subst e1; subst e2; exact ⟨Nat.le_refl _, Nat.le_refl _⟩
      | prim =>
        rw [parseP.eq_def] at h
        (try simp only at h)
        split at h
        · rename_i hs
          have h0 := sees_len hs
          obtain ⟨t1, o1, i1, h1, h2⟩ := PR.bind_ok h
          have h3 := ih _ _ _ _ _ _ h1
          (try simp only at h2)
          split at h2
          · rename_i hs1
            have h4 := sees_len hs1
            injection h2 with e1 e2 e3
            subst e1; subst e2
            omega
          · exact (failP_ok h2).elim
        · cases ts with
          | nil => exact (failP_ok h).elim
          | cons t r =>
            have hl : (t :: r).length = r.length + 1 := rfl
            simp only at h
            split at h
            · exact (failP_ok h).elim
            · split at h
              · exact (failP_ok h).elim
              · split at h
                · injection h with e1 e2 e3
                  subst e1; subst e2
                  rw [List.length_append, List.length_singleton]
                  omega
                · split at h
                  · exact (failP_ok h).elim
                  · split at h
                    · injection h with e1 e2 e3
                      subst e1; subst e2
                      rw [List.length_append, List.length_singleton]
                      omega
                    · obtain ⟨t1, o1, i1, h1, h2⟩ := AR.bind_ok h
                      have h3 := iha _ _ _ _ _ _ _ _ h1
                      (try simp only at h2)
                      split at h2
                      · rename_i hs1
                        have h4 := sees_len hs1
                        injection h2 with e1 e2 e3
                        subst e1; subst e2
                        rw [List.length_append, List.length_singleton]
                        omega
                      · exact (failP_ok h2).elim
    · cases n with
      | zero => rw [argsP] at h; injection h with e1 e2 e3; subst e1; subst e2; exact ⟨Nat.le_refl _, Nat.le_refl _⟩
      | succ n =>
        rw [argsP] at h
        by_cases hs : seesP ts 0 (if b = true then [40] else [44]) = true
        · rw [if_pos hs] at h
          have h0 := sees_len hs
          obtain ⟨t1, o1, i1, h1, h2⟩ := PR.bindA_ok h
          have h3 := ih _ _ _ _ _ _ h1
          have h4 := iha _ _ _ _ _ _ _ _ h2
          omega
        · rw [if_neg hs] at h
          exact (failA_ok h).elim
/-- How many tokens and nodes there are: never more than at first. -/
theorem parse_len (ende : Int) (f : Nat) (m : Md) (ts : List Tok) (out : List S57) (ts' : List Tok) (out' : List S57) (i : Int) (h : parseP ende f m ts out = .ok ts' out' i) : ts'.length ≤ ts.length ∧ ts'.length + out'.length ≤ ts.length + out.length :=
  (len_all ende f).1 m ts out ts' out' i h
theorem args_len (ende : Int) (f : Nat) (n : Nat) (b : Bool) (ts : List Tok) (out : List S57) (kids : List Int) (ts' : List Tok) (out' : List S57) (kids' : List Int) (h : argsP ende f n b ts out kids = .ok ts' out' kids') : ts'.length ≤ ts.length ∧ ts'.length + out'.length ≤ ts.length + out.length :=
  (len_all ende f).2 n b ts out kids ts' out' kids' h

/-- The parser that lies in block gp: what is left, and the nodes that have been put. -/
structure PSt (wB : World) (gp : Nat) (ende : Int) (X : Nat → Prop) (w : World) (ts : List Tok) (vo : Value) (out : List S57) : Prop where
  below : Below wB.heap.size wB w
  gpB : wB.heap.size ≤ gp
  cell : ∃ At ct, w.heap[gp]? = some (.cells #[.slice At ts.length ct, .int .i64 ende, vo] 97 (0, 0)) ∧ Kd.C k86 wB At ts.length (ts.map tokS) ∧ ts.length ≤ ct
  rows : Kd.R k57 57 w wB.heap.size (fun k => k ≠ gp ∧ ¬ X k) vo out
  held : ∀ k, X k → k < w.heap.size
/-- From w to w': only the parser's own blocks have turned. -/
def PMove (gp : Nat) (vo vo' : Value) (w w' : World) : Prop :=
  Fr (fun k => k = gp ∨ some k = vo.ownBlock) w w' ∧ (vo'.ownBlock = vo.ownBlock ∨ ∃ b, vo'.ownBlock = some b ∧ w.heap.size ≤ b)
theorem PMove.refl (gp : Nat) (vo : Value) (w : World) : PMove gp vo vo w w := ⟨Fr.refl _ _, .inl rfl⟩
theorem PMove.trans {gp : Nat} {a b c : Value} {w w1 w2 : World} (h : PMove gp a b w w1) (k : PMove gp b c w1 w2) : PMove gp a c w w2 := by
  refine ⟨h.1.step k.1 (fun i hi hs => ?_), ?_⟩
  · rcases hs with rfl | hs
    · exact .inl rfl
    · rcases h.2 with e | ⟨j, e, hj⟩
      · exact .inr (hs.trans e)
      · rw [e] at hs; injection hs with hs; omega
  · rcases k.2 with e | ⟨j, e, hj⟩
    · rcases h.2 with e' | ⟨i, e', hi⟩
      · exact .inl (e.trans e')
      · exact .inr ⟨i, e.trans e', hi⟩
    · exact .inr ⟨j, e, Nat.le_trans h.1.size hj⟩
theorem PMove.below {gp : Nat} {vo : Value} {w w' : World} (h : Below w.heap.size w w') : PMove gp vo vo w w' := ⟨below_fr h _, .inl rfl⟩
theorem PSt.next {wB : World} {gp : Nat} {X : Nat → Prop} {ende : Int} {w w' : World} {ts : List Tok} {vo : Value} {out : List S57} (h : PSt wB gp ende X w ts vo out) (hb : Below w.heap.size w w') : PSt wB gp ende X w' ts vo out := by
  obtain ⟨At, ct, hc, hC, hl⟩ := h.cell
  exact ⟨below_then h.below h.below.size hb, h.gpB, ⟨At, ct, blk_below hc hb, hC, hl⟩, Kd.R_below h.rows hb, fun k hk => Nat.lt_of_lt_of_le (h.held k hk) hb.size⟩
/-- The panic of 'fail'. -/
def failV (e a : Int) : Ending := .panicked [⟨.iface 94 (.agg #[.int .i64 e, .int .i64 a]), false, false⟩]
/-- What a function of the parser leaves. -/
def PPost (wB : World) (gp : Nat) (ende : Int) (X : Nat → Prop) (vo : Value) (w : World) (r : PR) (e : Ending) (w' : World) : Prop := match r with
  | .stop => True
  | .fail er a => e = failV er a ∧ Below wB.heap.size wB w'
  | .ok ts out i => e = .returned (.int .i64 i) ∧ ∃ vo', PSt wB gp ende X w' ts vo' out ∧ PMove gp vo vo' w w'
end Go.Proofs.YtenecpmonodjaaaGreatDoor.PAll

/- The parser's rounds: eight for each token are enough. -/
namespace Go.Proofs.YtenecpmonodjaaaGreatDoor.PAll
open Go.RowKit Go.Proofs.YtenecpmonodjaaaGreatDoorW.PrintWords Go.Proofs.YtenecpmonodjaaaGreatDoorW.PrintLast Go.Proofs.YtenecpmonodjaaaGreatDoorW.PrintMore
open Go.Proofs.YtenecpmonodjaaaGreatDoor.Obs
set_option linter.unusedVariables false
set_option linter.unusedSimpArgs false

/-- How many rounds a mode wants at n tokens. -/
def needP : Md → Nat → Int
  | .lvl l, n => 8 * n + 7 - l
  | .loop _ _, n => 8 * n + 2
  | .prim, n => 8 * n + 2
def okMd : Md → Prop
  | .lvl l => 1 ≤ l ∧ l ≤ 4
  | .loop l _ => 1 ≤ l ∧ l ≤ 3
  | .prim => True

theorem failP_ne (ende e : Int) (ts : List Tok) : failP ende e ts ≠ .stop := by cases ts <;> exact fun h => by cases h
theorem failA_ne (ende e : Int) (ts : List Tok) : AR.of (failP ende e ts) ≠ .stop := by cases ts <;> exact fun h => by cases h
theorem PR.bind_ne {r : PR} {g : List Tok → List S57 → Int → PR} (h : r ≠ .stop) (hg : ∀ ts out i, r = .ok ts out i → g ts out i ≠ .stop) : r.bind g ≠ .stop := by
  cases r with
  | stop => exact absurd rfl h
  | fail e a => exact fun h => by cases h
  | ok ts out i => exact hg ts out i rfl
theorem PR.bindA_ne {r : PR} {g : List Tok → List S57 → Int → AR} (h : r ≠ .stop) (hg : ∀ ts out i, r = .ok ts out i → g ts out i ≠ .stop) : r.bindA g ≠ .stop := by
  cases r with
  | stop => exact absurd rfl h
  | fail e a => exact fun h => by cases h
  | ok ts out i => exact hg ts out i rfl
theorem AR.bind_ne {r : AR} {g : List Tok → List S57 → List Int → PR} (h : r ≠ .stop) (hg : ∀ ts out i, r = .ok ts out i → g ts out i ≠ .stop) : r.bind g ≠ .stop := by
  cases r with
  | stop => exact absurd rfl h
  | fail e a => exact fun h => by cases h
  | ok ts out i => exact hg ts out i rfl

theorem fuel_all (ende : Int) : ∀ f : Nat, (∀ (m : Md) (ts : List Tok) (out : List S57), okMd m → needP m ts.length ≤ f → parseP ende f m ts out ≠ .stop) ∧
    (∀ (n : Nat) (b : Bool) (ts : List Tok) (out : List S57) (kids : List Int), 8 * (ts.length : Int) + 2 ≤ f → argsP ende f n b ts out kids ≠ .stop)
  | 0 => ⟨fun m ts out hm h => (by exfalso; cases m <;> simp only [needP, okMd] at h hm <;> omega), fun n b ts out kids h => (by exfalso; omega)⟩
  | f + 1 => by
    obtain ⟨ih, iha⟩ := fuel_all ende f
    refine ⟨fun m ts out hm h => ?_, fun n b ts out kids h => ?_⟩
    · cases m with
      | lvl least =>
        simp only [needP, okMd] at h hm
        rw [parseP]
        split
        · rename_i h4
          subst h4
          split
          · rename_i hs
            have h0 := sees_len hs
            refine PR.bind_ne (ih (.lvl 4) _ _ ⟨by omega, by omega⟩ (by simp only [needP]; omega)) (fun _ _ _ _ h => by cases h)
          · exact ih .prim _ _ trivial (by simp only [needP]; omega)
        · refine PR.bind_ne (ih (.lvl (least + 1)) _ _ ⟨by omega, by omega⟩ (by simp only [needP]; omega)) (fun ts' out' i hr => ?_)
          have hl := parse_len ende f _ _ _ _ _ _ hr
          exact ih (.loop least i) _ _ ⟨by omega, by omega⟩ (by simp only [needP]; omega)
      | loop least a =>
        simp only [needP, okMd] at h hm
        cases ts with
        | nil => rw [parseP]; exact fun h => by cases h
        | cons t r =>
          rw [List.length_cons] at h
          rw [parseP]
          split
          · split
            · exact fun h => by cases h
            · refine PR.bind_ne (ih (.lvl (least + 1)) _ _ ⟨by omega, by omega⟩ (by simp only [needP]; omega)) (fun ts' out' i hr => ?_)
              have hl := parse_len ende f _ _ _ _ _ _ hr
              (try simp only)
              split
              · exact fun h => by cases h
              · exact ih (.loop least _) _ _ hm (by simp only [needP]; omega)
          · exact fun h => by cases h
      | prim =>
        simp only [needP] at h
        rw [parseP.eq_def]
        (try simp only)
        split
        · rename_i hs
          have h0 := sees_len hs
          refine PR.bind_ne (ih (.lvl 1) _ _ ⟨by omega, by omega⟩ (by simp only [needP]; omega)) (fun ts' out' i hr => ?_)
          (try simp only)
          split
          · exact fun h => by cases h
          · exact failP_ne _ _ _
        · cases ts with
          | nil => exact failP_ne _ _ _
          | cons t r =>
            rw [List.length_cons] at h
            simp only
            split
            · exact failP_ne _ _ _
            · split
              · exact failP_ne _ _ _
              · split
                · exact fun h => by cases h
                · split
                  · exact failP_ne _ _ _
                  · split
                    · exact fun h => by cases h
                    · refine AR.bind_ne (iha _ _ _ _ _ (by omega)) (fun ts' out' i hr => ?_)
                      (try simp only)
                      split
                      · exact fun h => by cases h
                      · exact failP_ne _ _ _
    · cases n with
      | zero => rw [argsP]; exact fun h => by cases h
      | succ n =>
        rw [argsP]
        by_cases hs : seesP ts 0 (if b = true then [40] else [44]) = true
        · rw [if_pos hs]
          have h0 := sees_len hs
          refine PR.bindA_ne (ih (.lvl 1) _ _ ⟨by omega, by omega⟩ (by simp only [needP]; omega)) (fun ts' out' i hr => ?_)
          have hl := parse_len ende f _ _ _ _ _ _ hr
          exact iha _ _ _ _ _ (by omega)
        · rw [if_neg hs]
          exact failA_ne _ _ _
theorem parse_fuel (ende : Int) (f : Nat) (ts : List Tok) (out : List S57) (h : 8 * ts.length + 8 ≤ f) : parseP ende f (.lvl 1) ts out ≠ .stop :=
  (fuel_all ende f).1 (.lvl 1) ts out ⟨by omega, by omega⟩ (by simp only [needP]; omega)
end Go.Proofs.YtenecpmonodjaaaGreatDoor.PAll

/- The parser's small functions, walked by hand: strength, sees, fail, take, must, put. -/
namespace Go.Proofs.YtenecpmonodjaaaGreatDoor.PAll
open Go.RowKit Go.Proofs.YtenecpmonodjaaaGreatDoorW.PrintWords Go.Proofs.YtenecpmonodjaaaGreatDoorW.PrintLast Go.Proofs.YtenecpmonodjaaaGreatDoorW.PrintMore
open Go.Proofs.YtenecpmonodjaaaGreatDoor.Obs
set_option linter.unusedVariables false
set_option linter.unusedSimpArgs false

def StrP (r : Int) (w : World) (e : Ending) (w' : World) : Prop := e = .returned (.int .i64 r) ∧ w' = w
set_option maxHeartbeats 4000000 in
set_option maxRecDepth 100000 in
theorem strength_calls (op : Int) (w : World) : Calls Tryz.prog 95 #[.int .i64 op] w (StrP (strengthZ op) w) := by
  go_enter Tryz.func95, Tryz.ntmps95
  by_cases h1 : op = 10
  · subst h1
    go_wp2
    go_ret
    exact ⟨rfl, rfl⟩
  by_cases h2 : op = 11
  · subst h2
    go_wp2
    go_ret
    exact ⟨rfl, rfl⟩
  by_cases h3 : op = 3
  · subst h3
    go_wp2
    go_ret
    exact ⟨rfl, rfl⟩
  by_cases h4 : op = 4
  · subst h4
    go_wp2
    go_ret
    exact ⟨rfl, rfl⟩
  by_cases h5 : op = 5
  · subst h5
    go_wp2
    go_ret
    exact ⟨rfl, rfl⟩
  by_cases h6 : op = 6
  · subst h6
    go_wp2
    go_ret
    exact ⟨rfl, rfl⟩
  by_cases h7 : op = 12
  · subst h7
    go_wp2
    go_ret
    exact ⟨rfl, rfl⟩
  have b1 : (op == 10) = false := beq_eq_false_iff_ne.2 h1
  have b2 : (op == 11) = false := beq_eq_false_iff_ne.2 h2
  have b3 : (op == 3) = false := beq_eq_false_iff_ne.2 h3
  have b4 : (op == 4) = false := beq_eq_false_iff_ne.2 h4
  have b5 : (op == 5) = false := beq_eq_false_iff_ne.2 h5
  have b6 : (op == 6) = false := beq_eq_false_iff_ne.2 h6
  have b7 : (op == 12) = false := beq_eq_false_iff_ne.2 h7
  have HZ := Lib.hid (show strengthZ op = 5 by unfold strengthZ; rw [if_neg (by omega), if_neg (by omega), if_neg (by omega), if_neg (by omega)])
  clear h1 h2 h3 h4 h5 h6 h7
  go_wp2
  go_ret
  exact ⟨by rw [HZ.out]; rfl, rfl⟩

theorem tok_at {w : World} {A : Option Addr} {n : Nat} {xs : List Tok} (h : Kd.C k86 w A n (xs.map tokS)) (j : Nat) (hj : j < n) (x : Tok) (hx : xs[j]? = some x) :
    ∃ ad, A = some ad ∧ w.cell? (ad.add (j * 4)) = some (.int .i64 x.k) ∧ w.cell? ⟨(ad.add (j * 4)).block, (ad.add (j * 4)).off + 1, none⟩ = some (.string ⟨x.t.toArray⟩) ∧ w.cell? ⟨(ad.add (j * 4)).block, (ad.add (j * 4)).off + 2, none⟩ = some (.int .i64 x.n) ∧ w.cell? ⟨(ad.add (j * 4)).block, (ad.add (j * 4)).off + 3, none⟩ = some (.int .i64 x.a) := by
  obtain ⟨ad, e, h0, h1, h2, h3⟩ := at_T86 h (j : Int) (by omega) (by omega)
  have hr : rd_T86 (xs.map tokS) (j : Int) = tokS x := by
    unfold rd_T86
    rw [Int.toNat_natCast, List.getD_eq_getElem?_getD, List.getElem?_map, hx]
    rfl
  rw [hr] at h0 h1 h2 h3
  exact ⟨ad, e, h0, h1, h2, h3⟩

def BoolP (r : Bool) (w : World) (e : Ending) (w' : World) : Prop := e = .returned (.bool r) ∧ w' = w
set_option maxHeartbeats 4000000 in
set_option maxRecDepth 100000 in
theorem sees_calls {wB w : World} {gp : Nat} {X : Nat → Prop} {ende : Int} {ts : List Tok} {vo : Value} {out : List S57} (hP : PSt wB gp ende X w ts vo out) (j : Nat) (s : ByteArray) :
    Calls Tryz.prog 91 #[.pointer (some ⟨gp, 0, none⟩), .int .i64 j, .string s] w (BoolP (seesP ts j s.data.toList) w) := by
  obtain ⟨At, ct, hc, hC, hl⟩ := hP.cell
  have hb := hP.below
  clear hP
  have c0 := (blk_cell hc 0).trans rfl
  clear hc
  go_enter Tryz.func91, Tryz.ntmps91
  by_cases hj : j < ts.length
  · obtain ⟨t, ht⟩ : ∃ t, ts[j]? = some t := ⟨_, List.getElem?_eq_getElem hj⟩
    have HS := Lib.hid (show seesP ts j s.data.toList = (t.k == 4 && t.t == s.data.toList) by unfold seesP; rw [ht])
    obtain ⟨ad, rfl, z0, z1, z2, z3⟩ := tok_at hC j hj t ht
    have k0 := (hb.cell (World.block_lt_of_cell? _ _ z0)).trans z0
    have k1 := (hb.cell (World.block_lt_of_cell? _ _ z1)).trans z1
    clear z0 z1 z2 z3 ht hC hb
    have hgt : decide ((j : Int) < (ts.length : Int)) = true := decide_eq_true (by omega)
    by_cases hk : t.k = 4
    · by_cases htt : t.t = s.toList
      · go_wp2
        go_ret
        exact ⟨by rw [HS.out]; simp [hk, htt, ByteArray.toList_eq], rfl⟩
      · have htb : (t.t == s.toList) = false := beq_eq_false_iff_ne.2 htt
        go_wp2
        go_ret
        exact ⟨by rw [HS.out, show (t.t == s.data.toList) = false from beq_eq_false_iff_ne.2 (by rw [← ByteArray.toList_eq]; exact htt), Bool.and_false]; rfl, rfl⟩
    · have hkb : (t.k == 4) = false := beq_eq_false_iff_ne.2 hk
      go_wp2
      go_ret
      exact ⟨by rw [HS.out, hkb, Bool.false_and]; rfl, rfl⟩
  · have HS := Lib.hid (show seesP ts j s.data.toList = false by unfold seesP; rw [List.getElem?_eq_none (by omega)])
    have hgt : decide ((j : Int) < (ts.length : Int)) = false := decide_eq_false (by omega)
    go_wp2
    go_ret
    exact ⟨by rw [HS.out]; rfl, rfl⟩

def FailP (r : PR) (w : World) (e : Ending) (w' : World) : Prop := match r with | .fail er a => e = failV er a ∧ w' = w | _ => True
set_option maxHeartbeats 4000000 in
set_option maxRecDepth 100000 in
theorem fail_calls {wB w : World} {gp : Nat} {X : Nat → Prop} {ende : Int} {ts : List Tok} {vo : Value} {out : List S57} (hP : PSt wB gp ende X w ts vo out) (er : Int) :
    Calls Tryz.prog 67 #[.pointer (some ⟨gp, 0, none⟩), .int .i64 er] w (FailP (failP ende er ts) w) := by
  obtain ⟨At, ct, hc, hC, hl⟩ := hP.cell
  have hb := hP.below
  clear hP
  have c0 := (blk_cell hc 0).trans rfl
  have c1 := (blk_cell hc 1).trans rfl
  clear hc
  have hpn : ∀ (t : TypeId) (v : Value) (w : World), (Instr.panic (.iface t v)).run Tryz.prog w = .halt (.panic (.iface t v)) w := fun _ _ _ => rfl
  go_enter Tryz.func67, Tryz.ntmps67
  cases ts with
  | nil =>
    go_wp2
    exact ⟨rfl, rfl, rfl⟩
  | cons t r =>
    obtain ⟨ad, rfl, z0, z1, z2, z3⟩ := tok_first (x := t) (xs := r) hC (by simp)
    have k3 := (hb.cell (World.block_lt_of_cell? _ _ z3)).trans z3
    clear z0 z1 z2 z3 hC hb
    have hl0 : ((r.length : Int) + 1 == 0) = false := beq_eq_false_iff_ne.2 (by omega)
    go_wp2
    exact ⟨rfl, rfl, rfl⟩

theorem grown_setCell (w : World) (p : Addr) (u : Value) : w.grownBy (w.setCell p u) (some p.block) :=
  ⟨rfl, rfl, rfl, by simp [World.setCell], fun k _ hk => Below.heap_setCell _ _ _ _ (fun e => hk (by rw [e]))⟩
theorem PSt.set0 {wB w : World} {gp : Nat} {X : Nat → Prop} {ende : Int} {ts ts' : List Tok} {vo : Value} {out : List S57} (hP : PSt wB gp ende X w ts vo out) (At : Option Addr) (ct : Nat) (hC : Kd.C k86 wB At ts'.length (ts'.map tokS)) (hl : ts'.length ≤ ct) :
    PSt wB gp ende X (w.setCell ⟨gp, 0, none⟩ (.slice At ts'.length ct)) ts' vo out ∧ PMove gp vo vo w (w.setCell ⟨gp, 0, none⟩ (.slice At ts'.length ct)) := by
  obtain ⟨A0, c0, hc, _, _⟩ := hP.cell
  refine ⟨⟨?_, hP.gpB, ⟨At, ct, (blk_set hc 0 _).trans rfl, hC, hl⟩, Kd.R_grown hP.rows (grown_setCell _ _ _) (fun k hk e => hk.1 (by injection e)), fun k hk => Nat.lt_of_lt_of_le (hP.held k hk) (by simp [World.setCell])⟩, ⟨(Fr.setCell1 w _ _).mono (fun b _ e => .inl e), .inl rfl⟩⟩
  exact hP.below.trans ((Fr.setCell1 w ⟨gp, 0, none⟩ (.slice At ts'.length ct)).mono (T := fun k => k = gp) (fun b _ e => e) |> fun h => ⟨h.os, h.tape, h.output, h.size, fun k hk => h.block k (Nat.lt_of_lt_of_le hk hP.below.size) (fun e => by have := hP.gpB; have : k = gp := e; omega)⟩)
theorem take_end {wB w : World} {gp : Nat} {X : Nat → Prop} {ende : Int} {t : Tok} {r : List Tok} {vo : Value} {out : List S57} (hP : PSt wB gp ende X w (t :: r) vo out) (At : Option Addr) (ct : Nat) (hC : Kd.C k86 wB At r.length (r.map tokS)) (hl : r.length ≤ ct) (o1 o2 : Obj) :
    PSt wB gp ende X (((w.setCell ⟨gp, 0, none⟩ (.slice At r.length ct)).alloc o1).alloc o2) r vo out ∧ PMove gp vo vo w (((w.setCell ⟨gp, 0, none⟩ (.slice At r.length ct)).alloc o1).alloc o2) := by
  obtain ⟨h1, h2⟩ := hP.set0 At ct hC hl
  have hb : Below (w.setCell ⟨gp, 0, none⟩ (.slice At r.length ct)).heap.size (w.setCell ⟨gp, 0, none⟩ (.slice At r.length ct)) (((w.setCell ⟨gp, 0, none⟩ (.slice At r.length ct)).alloc o1).alloc o2) := below_alloc (below_alloc (Below.refl _ _) _) _
  exact ⟨h1.next hb, h2.trans (PMove.below hb)⟩
theorem tok_info : (Tryz.prog.info? 86).map (·.size) = some 4 := by kernel_rfl
/-- Taking the next token. -/
def TakeP (wB : World) (gp : Nat) (ende : Int) (X : Nat → Prop) (t : Tok) (r : List Tok) (vo : Value) (out : List S57) (w : World) (e : Ending) (w' : World) : Prop :=
  e = .returned (.agg #[.int .i64 t.k, .string ⟨t.t.toArray⟩, .int .i64 t.n, .int .i64 t.a]) ∧ PSt wB gp ende X w' r vo out ∧ PMove gp vo vo w w'
set_option maxHeartbeats 4000000 in
set_option maxRecDepth 100000 in
theorem take_calls {wB w : World} {gp : Nat} {X : Nat → Prop} {ende : Int} {t : Tok} {r : List Tok} {vo : Value} {out : List S57} (hP : PSt wB gp ende X w (t :: r) vo out) (hr : r.length < 5000) :
    Calls Tryz.prog 96 #[.pointer (some ⟨gp, 0, none⟩)] w (TakeP wB gp ende X t r vo out w) := by
  obtain ⟨At, ct, hc, hC, hl⟩ := hP.cell
  obtain ⟨ad, rfl, z0, z1, z2, z3⟩ := tok_first (x := t) (xs := r) hC (by simp)
  have hb := hP.below
  have k0 := (hb.cell (World.block_lt_of_cell? _ _ z0)).trans z0
  have k1 := (hb.cell (World.block_lt_of_cell? _ _ z1)).trans z1
  have k2 := (hb.cell (World.block_lt_of_cell? _ _ z2)).trans z2
  have k3 := (hb.cell (World.block_lt_of_cell? _ _ z3)).trans z3
  have c0 := (blk_cell hc 0).trans rfl
  have f0 := blk_frozen hc 0
  have hgl := blk_lt hc
  have hal := World.block_lt_of_cell? _ _ k0
  clear z0 z1 z2 z3
  have hD := Kd.C_drop (m := 1) (c := ct) (by rw [List.length_map]; exact hC) (by simp) (by rw [List.length_map]; exact hl)
  rw [show ((t :: r).map tokS).drop 1 = r.map tokS from rfl, List.length_map] at hD
  go_enter Tryz.func96, Tryz.ntmps96
  by_cases h1 : ct = 1
  · rw [if_pos h1] at hD
    subst h1
    go_wp2_with fail
    have hr0 : r.length ≤ 0 := by have : r.length + 1 ≤ 1 := hl; omega
    obtain ⟨e1, e2⟩ := take_end hP (some ad) 0 hD hr0 (.cells #[.int .i64 t.k, .string ⟨t.t.toArray⟩, .int .i64 t.n, .int .i64 t.a] 86) (.cells #[.int .i64 t.k, .string ⟨t.t.toArray⟩, .int .i64 t.n, .int .i64 t.a] 86)
    refine bodyPost_ret (results_cell_row rfl _ _ w.heap.size 86 #[.int .i64 t.k, .string ⟨t.t.toArray⟩, .int .i64 t.n, .int .i64 t.a] (0, 0) _ rfl ?_ Tryz.underlying86 rfl tok_info) rfl ⟨rfl, e1, e2⟩
    have h := blk_new (w.setCell ⟨gp, 0, none⟩ (.slice (some ad) r.length 0)) (.cells #[.int .i64 t.k, .string ⟨t.t.toArray⟩, .int .i64 t.n, .int .i64 t.a] 86)
    rw [show (w.setCell ⟨gp, 0, none⟩ (.slice (some ad) r.length 0)).heap.size = w.heap.size by simp [World.setCell]] at h
    exact blk_alloc h _
  · rw [if_neg h1] at hD
    go_wp2_with fail
    have hr0 : r.length ≤ ct - 1 := by have : r.length + 1 ≤ ct := hl; omega
    obtain ⟨e1, e2⟩ := take_end hP (some ⟨ad.block, ad.off + 4, none⟩) (ct - 1) (by simpa [Addr.add, show (k86).sz = 4 from rfl] using hD) hr0 (.cells #[.int .i64 t.k, .string ⟨t.t.toArray⟩, .int .i64 t.n, .int .i64 t.a] 86) (.cells #[.int .i64 t.k, .string ⟨t.t.toArray⟩, .int .i64 t.n, .int .i64 t.a] 86)
    refine bodyPost_ret (results_cell_row rfl _ _ w.heap.size 86 #[.int .i64 t.k, .string ⟨t.t.toArray⟩, .int .i64 t.n, .int .i64 t.a] (0, 0) _ rfl ?_ Tryz.underlying86 rfl tok_info) rfl ⟨rfl, e1, e2⟩
    have h := blk_new (w.setCell ⟨gp, 0, none⟩ (.slice (some ⟨ad.block, ad.off + 4, none⟩) r.length (ct - 1))) (.cells #[.int .i64 t.k, .string ⟨t.t.toArray⟩, .int .i64 t.n, .int .i64 t.a] 86)
    rw [show (w.setCell ⟨gp, 0, none⟩ (.slice (some ⟨ad.block, ad.off + 4, none⟩) r.length (ct - 1))).heap.size = w.heap.size by simp [World.setCell]] at h
    exact blk_alloc h _

theorem fail_form {ende er : Int} {ts : List Tok} {w w' : World} {e : Ending} (h : FailP (failP ende er ts) w e w') : ∃ er' a, failP ende er ts = .fail er' a ∧ e = failV er' a ∧ w' = w := by
  cases ts with
  | nil => exact ⟨_, _, rfl, h.1, h.2⟩
  | cons t r => exact ⟨_, _, rfl, h.1, h.2⟩
/-- Taking a symbol. -/
def MustP (wB : World) (gp : Nat) (ende : Int) (X : Nat → Prop) (ts : List Tok) (s : List UInt8) (vo : Value) (out : List S57) (w : World) (e : Ending) (w' : World) : Prop :=
  if seesP ts 0 s = true then e = .returned (.tuple #[]) ∧ PSt wB gp ende X w' ts.tail vo out ∧ PMove gp vo vo w w' else FailP (failP ende 5 ts) w e w'
set_option maxHeartbeats 4000000 in
set_option maxRecDepth 100000 in
theorem must_calls {wB w : World} {gp : Nat} {X : Nat → Prop} {ende : Int} {ts : List Tok} {vo : Value} {out : List S57} (hP : PSt wB gp ende X w ts vo out) (hts : ts.length ≤ 5000) (s : ByteArray) :
    Calls Tryz.prog 93 #[.pointer (some ⟨gp, 0, none⟩), .string s] w (MustP wB gp ende X ts s.data.toList vo out w) := by
  go_enter Tryz.func93, Tryz.ntmps93
  go_wp2_with fail
  refine (sees_calls hP 0 s).mono ?_
  rintro e w1 ⟨rfl, rfl⟩
  cases hs : seesP ts 0 s.data.toList with
  | true =>
    have HS := Lib.hid hs
    obtain ⟨t, r, rfl⟩ : ∃ t r, ts = t :: r := by
      cases ts with
      | nil => simp [seesP] at hs
      | cons t r => exact ⟨t, r, rfl⟩
    clear hs
    go_wp2_with fail
    refine (take_calls hP (by simp at hts; omega)).mono ?_
    rintro e w2 ⟨rfl, h1, h2⟩
    go_wp2
    go_end0
    unfold MustP
    rw [if_pos HS.out]
    exact ⟨rfl, h1, h2⟩
  | false =>
    have HS := Lib.hid hs
    clear hs
    go_wp2_with fail
    refine (fail_calls hP 5).mono ?_
    intro e w2 he
    obtain ⟨er, a, hf, rfl, rfl⟩ := fail_form he
    exact ⟨rfl, by unfold MustP; rw [if_neg (by rw [HS.out]; decide)]; exact he⟩

theorem nodeInfo : (Tryz.prog.info? 57).map (fun i => (i.zero, i.size, i.bytes)) = some (some (.agg #[.int .i64 0, .int .i64 0, .string ⟨#[]⟩, .slice none 0 0]), 4, 56) := by kernel_rfl
/-- A node is put behind the others. -/
def PutP (wB : World) (gp : Nat) (ende : Int) (X : Nat → Prop) (ts : List Tok) (vo : Value) (out : List S57) (x : S57) (w : World) (e : Ending) (w' : World) : Prop :=
  e = .returned (.int .i64 out.length) ∧ ∃ vo', PSt wB gp ende X w' ts vo' (out ++ [x]) ∧ PMove gp vo vo' w w'
set_option maxHeartbeats 4000000 in
set_option maxRecDepth 100000 in
theorem put_calls {wB w : World} {gp : Nat} {X : Nat → Prop} {ende : Int} {ts : List Tok} {vo : Value} {out : List S57} (hP : PSt wB gp ende X w ts vo out) (hout : out.length < 100000) (x : S57) (vk : Value) (okp : Nat → Prop)
    (hk : (Kd.int .i64).R 3 w wB.heap.size okp vk x.f3) (hokp : ∀ k, okp k → (k ≠ gp ∧ ¬ X k) ∧ some k ≠ vo.ownBlock) :
    Calls Tryz.prog 94 #[.pointer (some ⟨gp, 0, none⟩), .agg #[.int .i64 x.f0, .int .i64 x.f1, .string x.f2, vk]] w (PutP wB gp ende X ts vo out x w) := by
  obtain ⟨At, ct, hc, hC, hl⟩ := hP.cell
  have hb := hP.below
  have hR := hP.rows
  have c0 := (blk_cell hc 0).trans rfl
  have c2 := (blk_cell hc 2).trans rfl
  have f2 := blk_frozen hc 2
  go_enter Tryz.func94, Tryz.ntmps94
  have hne1 : some gp ≠ vo.ownBlock := fun e => (hR.1 gp e.symm).1 rfl
  have hlt2 := fun k (h : vo.ownBlock = some k) => Kd.R_lt hR k h
  have hgl := blk_lt hc
  go_wp2_with fail
  have hG : (w.alloc (Obj.cells #[Value.int IntKind.i64 x.f0, Value.int IntKind.i64 x.f1, Value.string x.f2, vk] 57)).heap[w.heap.size]? = some (.cells #[.int .i64 x.f0, .int .i64 x.f1, .string x.f2, vk] 57 (0, 0)) := blk_new w _
  have hW1 : Below w.heap.size w (w.alloc (Obj.cells #[Value.int IntKind.i64 x.f0, Value.int IntKind.i64 x.f1, Value.string x.f2, vk] 57)) := below_alloc (Below.refl _ _) _
  generalize w.alloc (Obj.cells #[Value.int IntKind.i64 x.f0, Value.int IntKind.i64 x.f1, Value.string x.f2, vk] 57) = w1 at hG hW1 ⊢
  have hc1 := blk_below hc hW1
  have hb1 := below_then hb hb.size hW1
  have hR1 := Kd.R_below hR hW1
  have hk1 := Kd.R_below hk hW1
  have hne2 : some w.heap.size ≠ vo.ownBlock := fun e => by have := hlt2 _ e.symm; omega
  have hgne : w.heap.size ≠ gp := by omega
  generalize w.heap.size = g3 at hG hne2 hgne ⊢
  clear c0 c2 f2
  refine start_ (n := 11) (S := (fun w' => w'.cell? ⟨gp, 2, none⟩ = some vo ∧ w'.cell? ⟨g3, 0, none⟩ = some (.int .i64 x.f0) ∧ w'.cell? ⟨g3, 1, none⟩ = some (.int .i64 x.f1) ∧ w'.cell? ⟨g3, 2, none⟩ = some (.string x.f2) ∧ w'.cell? ⟨g3, 3, none⟩ = some vk)) (ds := [10]) #[false, false, false, false, false, false, false, false, false, false, false] (by kernel_rfl) rfl rfl ⟨(blk_cell hc1 2).trans rfl, (blk_cell hG 0).trans rfl, (blk_cell hG 1).trans rfl, (blk_cell hG 2).trans rfl, (blk_cell hG 3).trans rfl⟩ (fun hHeld => ?_)
  refine pure_ (i := 0) (N := some 5) (v := ?_) (a' := ?_) #[true, false, false, false, false, false, false, false, false, false, false] rfl rfl (by kernel_rfl) (fun _ _ _ h => h) (Or.inl ⟨by rfl, ?_⟩) ?_ ?_
  rotate_left
  · intro w'
    go_simp
    with_reducible rfl
  rotate_left
  · simp only [Act.put, List.setIfInBounds_toArray, List.set_cons_zero, List.set_cons_succ, i64_w, i32_w]
    rfl
  refine pure_ (i := 1) (N := some 6) (v := ?_) (a' := ?_) #[true, true, false, false, false, false, false, false, false, false, false] rfl rfl (by kernel_rfl) (fun _ _ _ h => h) (Or.inl ⟨by rfl, ?_⟩) ?_ ?_
  rotate_left
  · intro w'
    go_simp
    with_reducible rfl
  rotate_left
  · simp only [Act.put, List.setIfInBounds_toArray, List.set_cons_zero, List.set_cons_succ, i64_w, i32_w]
    rfl
  refine pure_ (i := 2) (N := some 7) (v := ?_) (a' := ?_) #[true, true, true, false, false, false, false, false, false, false, false] rfl rfl (by kernel_rfl) (fun _ _ _ h => h) (Or.inl ⟨by rfl, ?_⟩) ?_ ?_
  rotate_left
  · intro w'
    go_simp
    with_reducible rfl
  rotate_left
  · simp only [Act.put, List.setIfInBounds_toArray, List.set_cons_zero, List.set_cons_succ, i64_w, i32_w]
    rfl
  refine pure_ (i := 3) (N := some 8) (v := ?_) (a' := ?_) #[true, true, true, true, false, false, false, false, false, false, false] rfl rfl (by kernel_rfl) (fun _ _ _ h => h) (Or.inl ⟨by rfl, ?_⟩) ?_ ?_
  rotate_left
  · intro w'
    go_simp
    with_reducible rfl
  rotate_left
  · simp only [Act.put, List.setIfInBounds_toArray, List.set_cons_zero, List.set_cons_succ, i64_w, i32_w]
    rfl
  refine take_ (i := 4) (N := some 9) (v := ?_) (a' := ?_) #[true, true, true, true, true, false, false, false, false, false, false] rfl rfl (by kernel_rfl) (fun _ _ _ h => h) (Or.inl ⟨by rfl, ?_⟩) hHeld ?_ ?_
  rotate_left
  · rintro w' ⟨s0, s1, s2, s3, s4⟩
    go_simp
    with_reducible rfl
  rotate_left
  · simp only [Act.put, List.setIfInBounds_toArray, List.set_cons_zero, List.set_cons_succ, i64_w, i32_w]
    rfl
  refine take_ (i := 5) (N := some 10) (v := ?_) (a' := ?_) #[true, true, true, true, true, true, false, false, false, false, false] rfl rfl (by kernel_rfl) (fun _ _ _ h => h) (Or.inl ⟨by rfl, ?_⟩) hHeld ?_ ?_
  rotate_left
  · rintro w' ⟨s0, s1, s2, s3, s4⟩
    go_simp
    with_reducible rfl
  rotate_left
  · simp only [Act.put, List.setIfInBounds_toArray, List.set_cons_zero, List.set_cons_succ, i64_w, i32_w]
    rfl
  refine one_ (i := 6) (N := some 11) #[true, true, true, true, true, true, true, false, false, false, false] rfl rfl (by kernel_rfl) (by decide) (fun K hK => ?_)
  refine value_ (w1 := ?_) (v := ?_) (by rfl) rfl ?_ ?_
  rotate_left 2
  · go_simp
    constructor
    · rfl
    · rfl
  have hG2 := blk_alloc (blk_drew hG) (.cells #[.int .i64 x.f0, .int .i64 x.f1, .string x.f2, vk] 57)
  have hc2 := blk_alloc (blk_drew hc1) (.cells #[.int .i64 x.f0, .int .i64 x.f1, .string x.f2, vk] 57)
  refine hK.out _ _ ⟨(blk_cell hc2 2).trans rfl, (blk_cell hG2 0).trans rfl, (blk_cell hG2 1).trans rfl, (blk_cell hG2 2).trans rfl, (blk_cell hG2 3).trans rfl⟩ (fun hHeld => ?_)
  clear hK K
  refine norm_ (a' := ?_) ?_ ?_
  rotate_left
  · show Act.put _ (some 11) _ = _
    simp only [Act.put, List.setIfInBounds_toArray, List.set_cons_zero, List.set_cons_succ, i64_w, i32_w]
    rfl
  refine one_ (i := 7) (N := some 12) #[true, true, true, true, true, true, true, true, false, false, false] rfl rfl (by kernel_rfl) (by decide) (fun K hK => ?_)
  refine Kd.R_append_step k57 (w0 := wB) wB.heap.size (by rfl) (.tmp 9) (.tmp 11) 23 57 (.agg #[.int .i64 0, .int .i64 0, .string ⟨#[]⟩, .slice none 0 0]) 56 rfl Tryz.underlying23 nodeInfo rfl (by decide) (by omega) vo out x [.int .i64 x.f0, .int .i64 x.f1, .string x.f2, vk] (fun k => k ≠ gp ∧ ¬ X k) okp rfl rfl (k57_mkM _ _ _ _ (Kd.R_drew hk1)) hokp (fun k hk => ⟨fun e => by have := blk_lt hc1; have : w1.heap.size ≤ k := hk; omega, fun hx => by have := hP.held k hx; have := hW1.size; have : w1.heap.size ≤ k := hk; omega⟩) (Kd.R_drew hR1) (below_drew1 hb1) (below_drew1 hb1).size (by omega) ?_
  intro v1 w5 ho hb5 hg5 hat
  obtain ⟨Ao, co, rfl⟩ := Kd.R_slice ho
  rw [List.length_append, List.length_singleton] at ho hat
  have hc5 := blk_grown (blk_drew hc1) hg5 hne1
  have hG5 := blk_grown (blk_drew hG) hg5 hne2
  refine hK.out _ _ ⟨(blk_cell hc5 2).trans rfl, (blk_cell hG5 0).trans rfl, (blk_cell hG5 1).trans rfl, (blk_cell hG5 2).trans rfl, (blk_cell hG5 3).trans rfl⟩ (fun hHeld => ?_)
  clear hK K
  refine norm_ (a' := ?_) ?_ ?_
  rotate_left
  · show Act.put _ (some 12) _ = _
    simp only [Act.put, List.setIfInBounds_toArray, List.set_cons_zero, List.set_cons_succ, i64_w, i32_w]
    rfl
  refine pure_ (i := 8) (N := some 13) (v := ?_) (a' := ?_) #[true, true, true, true, true, true, true, true, true, false, false] rfl rfl (by kernel_rfl) (fun _ _ _ h => h) (Or.inl ⟨by rfl, ?_⟩) ?_ ?_
  rotate_left
  · intro w'
    go_simp
    with_reducible rfl
  rotate_left
  · simp only [Act.put, List.setIfInBounds_toArray, List.set_cons_zero, List.set_cons_succ, i64_w, i32_w]
    rfl
  refine pure_ (i := 9) (N := some 14) (v := ?_) (a' := ?_) #[true, true, true, true, true, true, true, true, true, true, false] rfl rfl (by kernel_rfl) (fun _ _ _ h => h) (Or.inl ⟨by rfl, ?_⟩) ?_ ?_
  rotate_left
  · intro w'
    go_simp
    with_reducible rfl
  rotate_left
  · simp only [Act.put, List.setIfInBounds_toArray, List.set_cons_zero, List.set_cons_succ, i64_w, i32_w]
    rfl
  refine last_ (i := 10) (N := none) #[true, true, true, true, true, true, true, true, true, true, true] rfl rfl (by kernel_rfl) (by decide) (fun K hK => ?_)
  have hs5 : w5.cell? ⟨gp, 2, none⟩ = some vo := (blk_cell hc5 2).trans rfl
  have hfs5 := blk_frozen hc5 2
  refine skip_ (w1 := ?_) (by rfl) rfl ?_ ?_
  rotate_left
  · go_simp
    rfl
  refine hK.out _ _ ?_
  clear hK K
  refine done_ (by kernel_rfl) ?_
  have hc6 := blk_set hc5 2 (.slice Ao (out.length + 1) co)
  have hcc6 : (w5.setCell ⟨gp, 2, none⟩ (.slice Ao (out.length + 1) co)).cell? ⟨gp, 2, none⟩ = some (.slice Ao (out.length + 1) co) := (blk_cell hc6 2).trans rfl
  have hR6 := Kd.R_grown ho (grown_setCell w5 ⟨gp, 2, none⟩ (.slice Ao (out.length + 1) co)) (fun k hk e => hk.1 (by injection e))
  have hB6 : Below wB.heap.size wB (w5.setCell ⟨gp, 2, none⟩ (.slice Ao (out.length + 1) co)) := hb5.trans (by
    have h := Fr.setCell1 w5 ⟨gp, 2, none⟩ (.slice Ao (out.length + 1) co)
    exact ⟨h.os, h.tape, h.output, h.size, fun k hk => h.block k (Nat.lt_of_lt_of_le hk hb5.size) (fun e => by have := hP.gpB; have : k = gp := e; omega)⟩)
  have hM : PMove gp vo (.slice Ao (out.length + 1) co) w (w5.setCell ⟨gp, 2, none⟩ (.slice Ao (out.length + 1) co)) := by
    refine ⟨?_, ?_⟩
    · have h1 : Fr (fun k => k = gp ∨ some k = vo.ownBlock) w w1 := below_fr hW1 _
      have h2 : Fr (fun k => k = gp ∨ some k = vo.ownBlock) w1.drew w5 := (Fr.grown hg5).mono (fun b _ e => .inr e)
      have h3 : Fr (fun k => k = gp ∨ some k = vo.ownBlock) w5 (w5.setCell ⟨gp, 2, none⟩ (.slice Ao (out.length + 1) co)) := (Fr.setCell1 _ _ _).mono (fun b _ e => .inl e)
      exact (h1.drew.trans h2).trans h3
    · rcases hat with e | ⟨b, e, hb⟩
      · exact .inl e
      · exact .inr ⟨b, e, Nat.le_trans hW1.size hb⟩
  generalize w5.setCell ⟨gp, 2, none⟩ (.slice Ao (out.length + 1) co) = w6 at hc6 hcc6 hR6 hB6 hM ⊢
  clear hHeld hs5 hfs5
  go_wp2
  go_ret
  exact ⟨rfl, _, ⟨hB6, hP.gpB, ⟨At, ct, hc6, hC, hl⟩, hR6, fun k hk => Nat.lt_of_lt_of_le (hP.held k hk) hM.1.size⟩, hM⟩
end Go.Proofs.YtenecpmonodjaaaGreatDoor.PAll
