/- The lexer over texts that are put together out of tokens and gaps: in Lean alone. -/
import Derived.Test.YtenecpmonodjaaaDoorHLexer
import Derived.Test.YtenecpmonodjaaaDoorHParser
import Derived.Test.YtenecpmonodjaaaDoorHValid
import Derived.Lib.ItoaNum
namespace Go.Proofs.YtenecpmonodjaaaDoor.PAll
open Go.RowKit Go.Proofs.YtenecpmonodjaaaDoorW.PrintWords Go.Proofs.YtenecpmonodjaaaDoorW.PrintLast Go.Proofs.YtenecpmonodjaaaDoorW.PrintMore
open Go.Proofs.YtenecpmonodjaaaDoor.Obs
set_option linter.unusedVariables false
set_option linter.unusedSimpArgs false

def LexR.shiftT (n : Nat) (t : Tok) : Tok := ⟨t.k, t.t, t.n, t.a + n⟩
theorem app_app (r : LexR) (l k : List Tok) : (r.app k).app l = r.app (l ++ k) := by
  cases r with
  | bad e a => rfl
  | ok x => show LexR.ok (l ++ (k ++ x)) = LexR.ok (l ++ k ++ x); rw [List.append_assoc]
theorem app_nil (r : LexR) : r.app [] = r := by cases r <;> rfl
theorem cons_app (r : LexR) (t : Tok) : r.cons t = r.app [t] := by cases r <;> rfl
/-- The lexer from a place where gaps may stand. -/
def lexG (f : Nat) (l : List UInt8) (a cnt : Nat) : LexR := lexAt f (l.drop (gapL false l)) (a + gapL false l) cnt
theorem lex_eq (s : List UInt8) (h : s.length ≤ 20000) : lex s = lexG (s.length + 1) s 0 0 := by
  unfold lex lexG
  rw [if_neg (by omega), Nat.zero_add]
/-- What may follow where the last token could go on. -/
def SafeB (r : List UInt8) : Prop := ∀ c, r.head? = some c → isWord c = false ∧ c.toNat ≠ 61
theorem safe_nil : SafeB [] := fun c h => by cases h
theorem safe_cons {c : UInt8} (r : List UInt8) (h1 : isWord c = false) (h2 : c.toNat ≠ 61) : SafeB (c :: r) := fun d h => by
  injection h with h; subst h; exact ⟨h1, h2⟩
theorem safe_app {s : List UInt8} (r : List UInt8) (h : SafeB s) (hn : s ≠ []) : SafeB (s ++ r) := by
  cases s with
  | nil => exact absurd rfl hn
  | cons c t => exact fun d hd => h d hd
/-- The text s is the tokens ts (their places from the text's begin on), whatever (safe, if b) text follows. -/
def LX (b : Bool) (s : List UInt8) (ts : List Tok) : Prop :=
  ∀ (rest : List UInt8) (f a cnt : Nat), (b = true → SafeB rest) → s.length + rest.length < f → cnt + ts.length ≤ 5000 →
    ∃ f', rest.length < f' ∧ lexG f (s ++ rest) a cnt = (lexG f' rest (a + s.length) (cnt + ts.length)).app (ts.map (LexR.shiftT a))
theorem shift_shift (a n : Nat) (t : Tok) : LexR.shiftT a (LexR.shiftT n t) = LexR.shiftT (a + n) t := by
  unfold LexR.shiftT
  simp only [Tok.mk.injEq, true_and]
  omega
theorem LX.nil (b : Bool) : LX b [] [] := fun rest f a cnt _ h1 _ => ⟨f, by simpa using h1, by rw [List.map_nil, app_nil]; rfl⟩
theorem LX.app {b b' : Bool} {s s' : List UInt8} {ts ts' : List Tok} (h : LX b s ts) (h' : LX b' s' ts') (hs : b = true → ∀ rest, (b' = true → SafeB rest) → SafeB (s' ++ rest)) :
    LX b' (s ++ s') (ts ++ ts'.map (LexR.shiftT s.length)) := by
  intro rest f a cnt hr hf hc
  rw [List.length_append] at hf
  rw [List.length_append, List.length_map] at hc
  obtain ⟨f1, hf1, e1⟩ := h (s' ++ rest) f a cnt (fun hb => hs hb rest hr) (by rw [List.length_append]; omega) (by omega)
  obtain ⟨f2, hf2, e2⟩ := h' rest f1 (a + s.length) (cnt + ts.length) hr (by rw [List.length_append] at hf1; omega) (by omega)
  refine ⟨f2, hf2, ?_⟩
  rw [List.append_assoc, e1, e2, app_app, List.length_append, List.length_append, List.length_map, List.map_append, List.map_map, Nat.add_assoc, Nat.add_assoc]
  congr 2
  apply List.map_congr_left
  intro t _
  exact (shift_shift a s.length t).symm
theorem LX.weak {b : Bool} {s : List UInt8} {ts : List Tok} (h : LX false s ts) : LX b s ts := fun rest f a cnt _ => h rest f a cnt (fun h => by cases h)
/-- A gap. -/
theorem LX.gap {g : List UInt8} (h : ∀ rest, gapL false (g ++ rest) = g.length + gapL false rest) : LX false g [] := by
  intro rest f a cnt _ hf _
  refine ⟨f, by omega, ?_⟩
  rw [List.map_nil, app_nil]
  unfold lexG
  rw [h rest, List.drop_append, List.drop_of_length_le (by omega), List.nil_append, Nat.add_sub_cancel_left, Nat.add_assoc]
  rfl
/-- A token. -/
theorem LX.tok {b : Bool} {p : List UInt8} {k n : Int} {t : List UInt8} (hp : p ≠ []) (h : ∀ rest, (b = true → SafeB rest) → gapL false (p ++ rest) = 0 ∧ tokL (p ++ rest) = .ok k t n p.length) : LX b p [⟨k, t, n, 0⟩] := by
  intro rest f a cnt hr hf hc
  obtain ⟨h1, h2⟩ := h rest hr
  obtain ⟨f, rfl⟩ : ∃ g, f = g + 1 := ⟨f - 1, by omega⟩
  have hl : 0 < p.length := List.length_pos_iff.2 hp
  refine ⟨f, by omega, ?_⟩
  unfold lexG
  rw [h1, List.drop_zero]
  show lexAt (f + 1) (p ++ rest) a cnt = _
  rw [lexAt_succ f _ a cnt (by simp [hp]), h2]
  simp only
  rw [if_neg (by simp at hc; omega), List.drop_append, List.drop_of_length_le (Nat.le_refl _), List.nil_append, Nat.sub_self, List.drop_zero, cons_app]
  rw [List.map_singleton, List.length_singleton]
  congr 2
  unfold LexR.shiftT
  simp only [Tok.mk.injEq, true_and]
  omega
theorem LX.lex {b : Bool} {s : List UInt8} {ts : List Tok} (h : LX b s ts) (hs : s.length ≤ 20000) (ht : ts.length ≤ 5000) : lex s = .ok ts := by
  rw [lex_eq s hs]
  obtain ⟨f', h1, h2⟩ := h [] (s.length + 1) 0 0 (fun _ => safe_nil) (by simp) (by omega)
  rw [List.append_nil] at h2
  rw [h2]
  obtain ⟨f, rfl⟩ : ∃ g, f' = g + 1 := ⟨f' - 1, by simp at h1; omega⟩
  have : lexG (f + 1) [] (0 + s.length) (0 + ts.length) = .ok [] := rfl
  rw [this]
  show LexR.ok _ = LexR.ok ts
  rw [List.append_nil]
  congr 1
  conv => rhs; rw [← List.map_id ts]
  apply List.map_congr_left
  intro t _
  rfl

/-! ### the tokens -/
theorem LX.blank (c : UInt8) (h : isBlank c = true) : LX false [c] [] := by
  refine LX.gap fun rest => ?_
  show gapL false (c :: rest) = 1 + gapL false rest
  rw [gapL, if_pos h]
theorem gap_none {c : UInt8} {r : List UInt8} (h1 : isBlank c = false) (h2 : c.toNat ≠ 35) : gapL false (c :: r) = 0 := by
  rw [gapL, if_neg (by simp [h1]), if_neg h2]
theorem LX.sym (c : UInt8) (h : isSym c = true) (h0 : isLetter c = false) (h1 : isDigit c = false) (h2 : isAngle c = false) (h3 : isBlank c = false) (h4 : c.toNat ≠ 34) (h5 : c.toNat ≠ 33) (h6 : c.toNat ≠ 35) : LX false [c] [⟨4, [c], 0, 0⟩] := by
  refine LX.tok (by simp) fun rest _ => ⟨gap_none h3 h6, ?_⟩
  show tokL (c :: rest) = _
  unfold tokL
  simp only
  rw [if_neg (by simp [h0]), if_neg (by simp [h1]), if_neg h4, if_neg (by simp [h2, h5]), if_pos h]
  rfl
theorem LX.less : LX true [60] [⟨4, [60], 0, 0⟩] := by
  refine LX.tok (by simp) fun rest hr => ⟨rfl, ?_⟩
  show tokL (60 :: rest) = _
  unfold tokL
  simp only
  rw [if_neg (by decide), if_neg (by decide), if_neg (by decide), if_pos (by decide)]
  have : (rest.head?.any fun d => d.toNat == 61) = false := by
    cases rest with
    | nil => rfl
    | cons c r =>
      have := (hr rfl c rfl).2
      simpa using this
  rw [this]
  rfl
theorem LX.equal : LX false [61, 61] [⟨4, [61, 61], 0, 0⟩] :=
  LX.tok (by simp) fun rest _ => ⟨rfl, rfl⟩
theorem take_word {p : UInt8 → Bool} {r rest : List UInt8} (h : ∀ x ∈ r, p x = true) (hr : ∀ c, rest.head? = some c → p c = false) : (r ++ rest).takeWhile p = r ∧ (r ++ rest).dropWhile p = rest := by
  induction r with
  | nil =>
    cases rest with
    | nil => exact ⟨rfl, rfl⟩
    | cons c t =>
      have := hr c rfl
      constructor
      · show List.takeWhile p (c :: t) = []
        rw [List.takeWhile_cons, this]; rfl
      · show List.dropWhile p (c :: t) = c :: t
        rw [List.dropWhile_cons, this]; rfl
  | cons x r ih =>
    have hx := h x (.head _)
    obtain ⟨h1, h2⟩ := ih (fun y hy => h y (.tail _ hy))
    constructor
    · show List.takeWhile p (x :: (r ++ rest)) = _
      rw [List.takeWhile_cons, hx, if_pos rfl, h1]
    · show List.dropWhile p (x :: (r ++ rest)) = _
      rw [List.dropWhile_cons, hx, if_pos rfl, h2]
/-- A name's form. -/
def NameB (s : List UInt8) : Prop := ∃ c r, s = c :: r ∧ isLetter c = true ∧ (∀ x ∈ r, isWord x = true) ∧ s.length ≤ 24
theorem letter_gap {c : UInt8} (h : isLetter c = true) : isBlank c = false ∧ c.toNat ≠ 35 := by
  unfold isLetter at h
  simp only [Bool.or_eq_true, Bool.and_eq_true, decide_eq_true_iff] at h
  unfold isBlank
  constructor
  · simp only [Bool.or_eq_false_iff, beq_eq_false_iff_ne]
    omega
  · omega
theorem digit_gap {c : UInt8} (h : isDigit c = true) : isBlank c = false ∧ c.toNat ≠ 35 ∧ isLetter c = false := by
  unfold isDigit at h
  simp only [Bool.and_eq_true, decide_eq_true_iff] at h
  unfold isBlank isLetter
  refine ⟨?_, by omega, ?_⟩
  · simp only [Bool.or_eq_false_iff, beq_eq_false_iff_ne]
    omega
  · simp only [Bool.or_eq_false_iff, Bool.and_eq_false_iff, decide_eq_false_iff_not]
    omega
theorem LX.name {s : List UInt8} (h : NameB s) : LX true s [⟨1, s, 0, 0⟩] := by
  obtain ⟨c, r, rfl, hc, hr, hl⟩ := h
  refine LX.tok (by simp) fun rest hsafe => ⟨gap_none (letter_gap hc).1 (letter_gap hc).2, ?_⟩
  show tokL (c :: (r ++ rest)) = _
  obtain ⟨h1, h2⟩ := take_word (p := isWord) hr (fun d hd => (hsafe rfl d hd).1)
  unfold tokL
  simp only
  rw [if_pos hc, h1, if_neg (by omega)]
theorem LX.num {s : List UInt8} (hn : s ≠ []) (h : ∀ x ∈ s, isDigit x = true) (hl : s.length ≤ 13) : LX true s [⟨2, s, digitsVal s, 0⟩] := by
  cases s with
  | nil => exact absurd rfl hn
  | cons c r =>
    have hc := h c (.head _)
    refine LX.tok (by simp) fun rest hsafe => ⟨gap_none (digit_gap hc).1 (digit_gap hc).2.1, ?_⟩
    show tokL (c :: (r ++ rest)) = _
    have hw : ∀ d, rest.head? = some d → isLetter d = false ∧ isDigit d = false ∧ d.toNat ≠ 95 := fun d hd => by
      have := (hsafe rfl d hd).1
      unfold isWord at this
      simp only [Bool.or_eq_false_iff, beq_eq_false_iff_ne] at this
      exact ⟨this.1.1, this.1.2, this.2⟩
    obtain ⟨h1, h2⟩ := take_word (p := isDigit) (fun x hx => h x (.tail _ hx)) (fun d hd => (hw d hd).2.1)
    unfold tokL
    simp only
    rw [if_neg (by simp [(digit_gap hc).2.2]), if_pos hc, h1, h2]
    have : (rest.head?.any fun d => isLetter d || d.toNat == 95) = false := by
      cases rest with
      | nil => rfl
      | cons d t =>
        have := hw d rfl
        simp [this.1, this.2.2]
    rw [this, if_neg (by simp; simp at hl; omega)]
theorem mem_take {p : UInt8 → Bool} : ∀ (l : List UInt8) (x : UInt8), x ∈ l.takeWhile p → p x = true
  | [], x, h => by cases h
  | c :: r, x, h => by
    rw [List.takeWhile_cons] at h
    by_cases hc : p c = true
    · rw [if_pos hc] at h
      rcases List.mem_cons.1 h with rfl | h
      · exact hc
      · exact mem_take r x h
    · rw [if_neg hc] at h; cases h
/-- A text that is one token, a name. -/
theorem tok_name1 {l t : List UInt8} {n : Int} {w : Nat} (h : tokL l = .ok 1 t n w) : NameB t := by
  cases l with
  | nil => cases h
  | cons c r =>
    unfold tokL at h
    simp only at h
    by_cases h1 : isLetter c = true
    · rw [if_pos h1] at h
      split at h
      · cases h
      · rename_i hle
        injection h with _ h2 _ _
        subst h2
        exact ⟨c, _, rfl, h1, fun x hx => mem_take _ x hx, by omega⟩
    · rw [if_neg h1] at h
      (repeat' split at h) <;> first | (injection h with h _ _ _; exact absurd h (by decide)) | cases h
theorem lex_name {s : List UInt8} {t : Tok} (h : lex s = .ok [t]) (hk : t.k = 1) (ht : t.t = s) : NameB s := by
  by_cases hs : s.length ≤ 20000
  · rw [lex_eq s hs] at h
    unfold lexG at h
    by_cases hl : s.drop (gapL false s) = []
    · rw [hl] at h; cases h
    · rw [lexAt_succ _ _ _ _ hl] at h
      cases hT : tokL (s.drop (gapL false s)) with
      | bad e => rw [hT] at h; cases h
      | ok k t' n w =>
        rw [hT] at h
        simp only at h
        rw [if_neg (by decide)] at h
        obtain ⟨l', _, e⟩ := cons_ok h
        injection e with e _
        subst e
        simp only at hk ht
        subst hk; subst ht
        exact tok_name1 hT
  · unfold lex at h
    rw [if_pos (by omega)] at h
    cases h
end Go.Proofs.YtenecpmonodjaaaDoor.PAll

/- The canonical text of an expression is parsed as that expression: in Lean alone. -/
namespace Go.Proofs.YtenecpmonodjaaaDoor.PAll
open Go.RowKit Go.Proofs.YtenecpmonodjaaaDoorW.PrintWords Go.Proofs.YtenecpmonodjaaaDoorW.PrintLast Go.Proofs.YtenecpmonodjaaaDoorW.PrintMore
open Go.Proofs.YtenecpmonodjaaaDoor.Obs
set_option linter.unusedVariables false
set_option linter.unusedSimpArgs false

/-! ### the parser does not look at places -/
def t0 (t : Tok) : Tok := ⟨t.k, t.t, t.n, 0⟩
def ts0 (ts : List Tok) : List Tok := ts.map t0
def pr0 : PR → PR
  | .stop => .stop
  | .fail e a => .fail e 0
  | .ok ts out i => .ok (ts0 ts) out i
def ar0 : AR → AR
  | .stop => .stop
  | .fail e a => .fail e 0
  | .ok ts out i => .ok (ts0 ts) out i
theorem sees0 (ts : List Tok) (j : Nat) (s : List UInt8) : seesP (ts0 ts) j s = seesP ts j s := by
  unfold seesP ts0
  rw [List.getElem?_map]
  cases ts[j]? <;> rfl
theorem tail0 (ts : List Tok) : (ts0 ts).tail = ts0 ts.tail := by cases ts <;> rfl
theorem fail0 (ende e : Int) (ts : List Tok) : pr0 (failP ende e ts) = failP 0 e (ts0 ts) := by cases ts <;> rfl
theorem failA0 (ende e : Int) (ts : List Tok) : ar0 (AR.of (failP ende e ts)) = AR.of (failP 0 e (ts0 ts)) := by cases ts <;> rfl
theorem bind0 {r r' : PR} {g g' : List Tok → List S53 → Int → PR} (hr : pr0 r = r') (h : ∀ ts out i, pr0 (g ts out i) = g' (ts0 ts) out i) : pr0 (r.bind g) = r'.bind g' := by
  subst hr
  cases r with
  | stop => rfl
  | fail e a => rfl
  | ok ts out i => exact h ts out i
theorem bindA0 {r r' : PR} {g g' : List Tok → List S53 → Int → AR} (hr : pr0 r = r') (h : ∀ ts out i, ar0 (g ts out i) = g' (ts0 ts) out i) : ar0 (r.bindA g) = r'.bindA g' := by
  subst hr
  cases r with
  | stop => rfl
  | fail e a => rfl
  | ok ts out i => exact h ts out i
theorem abind0 {r r' : AR} {g g' : List Tok → List S53 → List Int → PR} (hr : ar0 r = r') (h : ∀ ts out i, pr0 (g ts out i) = g' (ts0 ts) out i) : pr0 (r.bind g) = r'.bind g' := by
  subst hr
  cases r with
  | stop => rfl
  | fail e a => rfl
  | ok ts out i => exact h ts out i
theorem t0_k (t : Tok) : (t0 t).k = t.k := rfl
theorem t0_t (t : Tok) : (t0 t).t = t.t := rfl
theorem t0_n (t : Tok) : (t0 t).n = t.n := rfl
theorem ts0_cons (t : Tok) (r : List Tok) : ts0 (t :: r) = t0 t :: ts0 r := rfl
theorem ts0_mk (k : Int) (t : List UInt8) (n : Int) (a : Nat) (r : List Tok) : ts0 (⟨k, t, n, a⟩ :: r) = ⟨k, t, n, 0⟩ :: ts0 r := rfl
theorem parse0_all (ende : Int) : ∀ f : Nat, (∀ (m : Md) (ts : List Tok) (out : List S53), pr0 (parseP ende f m ts out) = parseP 0 f m (ts0 ts) out) ∧
    (∀ (n : Nat) (b : Bool) (ts : List Tok) (out : List S53) (kids : List Int), ar0 (argsP ende f n b ts out kids) = argsP 0 f n b (ts0 ts) out kids)
  | 0 => ⟨fun _ _ _ => by rw [parseP, parseP]; rfl, fun _ _ _ _ _ => by rw [argsP, argsP]; rfl⟩
  | f + 1 => by
    obtain ⟨ih, iha⟩ := parse0_all ende f
    refine ⟨fun m ts out => ?_, fun n b ts out kids => ?_⟩
    · cases m with
      | lvl least =>
        rw [parseP, parseP]
        by_cases h4 : least = 4
        · rw [if_pos h4, if_pos h4, sees0, tail0]
          by_cases hs : seesP ts 0 [45] = true
          · rw [if_pos hs, if_pos hs]
            exact bind0 (ih _ _ _) (fun ts out i => rfl)
          · rw [if_neg hs, if_neg hs, ih]
        · rw [if_neg h4, if_neg h4]
          exact bind0 (ih _ _ _) (fun ts out i => ih _ _ _)
      | loop least a =>
        cases ts with
        | nil => rw [parseP]; show _ = parseP 0 (f + 1) (.loop least a) [] out; rw [parseP]; rfl
        | cons t r =>
          obtain ⟨tk, tt, tn, ta⟩ := t
          rw [ts0_mk, parseP, parseP]
          simp only
          by_cases h4 : tk = 4
          · rw [if_pos h4, if_pos h4]
            by_cases hc : (lookM infixL tt).getD 0 = 0 ∨ strengthZ ((lookM infixL tt).getD 0) ≠ least
            · rw [if_pos hc, if_pos hc]; rfl
            · rw [if_neg hc, if_neg hc]
              refine bind0 (ih _ _ _) (fun ts out i => ?_)
              by_cases h1 : least = 1
              · rw [if_pos h1, if_pos h1]; rfl
              · rw [if_neg h1, if_neg h1, ih]
          · rw [if_neg h4, if_neg h4]; rfl
      | prim =>
        rw [parseP.eq_def, parseP.eq_def 0]
        (try simp only)
        rw [sees0, tail0]
        by_cases hs : seesP ts 0 [40] = true
        · rw [if_pos hs, if_pos hs]
          refine bind0 (ih _ _ _) (fun ts out i => ?_)
          (try simp only)
          rw [sees0]
          by_cases h2 : seesP ts 0 [41] = true
          · rw [if_pos h2, if_pos h2, tail0]; rfl
          · rw [if_neg h2, if_neg h2, fail0]
        · rw [if_neg hs, if_neg hs]
          cases ts with
          | nil => rfl
          | cons t r =>
            obtain ⟨tk, tt, tn, ta⟩ := t
            rw [ts0_mk]
            (try simp only)
            rw [← ts0_mk tk tt tn ta r, sees0]
            by_cases h1 : tk ≠ 2 ∧ tk ≠ 1
            · rw [if_pos h1, if_pos h1, fail0]
            · rw [if_neg h1, if_neg h1]
              by_cases h2 : tk = 2 ∧ 1000000 < tn
              · rw [if_pos h2, if_pos h2, fail0]
              · rw [if_neg h2, if_neg h2]
                by_cases h3 : tk = 2
                · rw [if_pos h3, if_pos h3]; rfl
                · rw [if_neg h3, if_neg h3]
                  by_cases h5 : (lookM functionsL tt).getD 0 = 0 ∧ seesP (⟨tk, tt, tn, ta⟩ :: r) 1 [40] = true
                  · rw [if_pos h5, if_pos h5, fail0]
                  · rw [if_neg h5, if_neg h5]
                    by_cases h6 : (lookM functionsL tt).getD 0 = 0
                    · rw [if_pos h6, if_pos h6]; rfl
                    · rw [if_neg h6, if_neg h6]
                      refine abind0 (iha _ _ _ _ _) (fun ts out i => ?_)
                      (try simp only)
                      rw [sees0]
                      by_cases h7 : seesP ts 0 [41] = true
                      · rw [if_pos h7, if_pos h7, tail0]; rfl
                      · rw [if_neg h7, if_neg h7, fail0]
    · cases n with
      | zero => rw [argsP, argsP]; rfl
      | succ n =>
        rw [argsP, argsP, sees0, tail0]
        by_cases hs : seesP ts 0 (if b = true then [40] else [44]) = true
        · rw [if_pos hs, if_pos hs]
          exact bindA0 (ih _ _ _) (fun ts out i => iha _ _ _ _ _)
        · rw [if_neg hs, if_neg hs, failA0]
theorem parse0 (ende : Int) (f : Nat) (m : Md) (ts : List Tok) (out : List S53) : pr0 (parseP ende f m ts out) = parseP 0 f m (ts0 ts) out := (parse0_all ende f).1 m ts out

/-! ### more rounds change nothing -/
theorem more_all (ende : Int) : ∀ f : Nat, (∀ (m : Md) (ts : List Tok) (out : List S53), parseP ende f m ts out ≠ .stop → parseP ende (f + 1) m ts out = parseP ende f m ts out) ∧
    (∀ (n : Nat) (b : Bool) (ts : List Tok) (out : List S53) (kids : List Int), argsP ende f n b ts out kids ≠ .stop → argsP ende (f + 1) n b ts out kids = argsP ende f n b ts out kids)
  | 0 => ⟨fun m ts out h => absurd (by rw [parseP]) h, fun n b ts out kids h => absurd (by rw [argsP]) h⟩
  | f + 1 => by
    obtain ⟨ih, iha⟩ := more_all ende f
    have hb : ∀ (m : Md) (ts : List Tok) (out : List S53) (g g' : List Tok → List S53 → Int → PR), (∀ ts out i, g ts out i ≠ .stop → g' ts out i = g ts out i) → (parseP ende f m ts out).bind g ≠ .stop → (parseP ende (f + 1) m ts out).bind g' = (parseP ende f m ts out).bind g := by
      intro m ts out g g' hg h
      have hne : parseP ende f m ts out ≠ .stop := fun e => h (by rw [e]; rfl)
      rw [ih m ts out hne]
      cases hq : parseP ende f m ts out with
      | stop => rfl
      | fail e a => rfl
      | ok ts1 out1 i1 =>
        rw [hq] at h
        exact hg ts1 out1 i1 h
    have hbA : ∀ (m : Md) (ts : List Tok) (out : List S53) (g g' : List Tok → List S53 → Int → AR), (∀ ts out i, g ts out i ≠ .stop → g' ts out i = g ts out i) → (parseP ende f m ts out).bindA g ≠ .stop → (parseP ende (f + 1) m ts out).bindA g' = (parseP ende f m ts out).bindA g := by
      intro m ts out g g' hg h
      have hne : parseP ende f m ts out ≠ .stop := fun e => h (by rw [e]; rfl)
      rw [ih m ts out hne]
      cases hq : parseP ende f m ts out with
      | stop => rfl
      | fail e a => rfl
      | ok ts1 out1 i1 =>
        rw [hq] at h
        exact hg ts1 out1 i1 h
    refine ⟨fun m ts out h => ?_, fun n b ts out kids h => ?_⟩
    · cases m with
      | lvl least =>
        rw [parseP] at h
        rw [parseP.eq_def ende (f + 1 + 1), parseP.eq_def ende (f + 1)]
        simp only
        by_cases h4 : least = 4
        · rw [if_pos h4] at h ⊢
          rw [if_pos h4]
          by_cases hs : seesP ts 0 [45] = true
          · rw [if_pos hs] at h ⊢
            rw [if_pos hs]
            exact hb _ _ _ _ _ (fun _ _ _ _ => rfl) h
          · rw [if_neg hs] at h ⊢
            rw [if_neg hs]
            exact ih _ _ _ h
        · rw [if_neg h4] at h ⊢
          rw [if_neg h4]
          exact hb _ _ _ _ _ (fun _ _ _ h => ih _ _ _ h) h
      | loop least a =>
        cases ts with
        | nil => rw [parseP, parseP]
        | cons t r =>
          rw [parseP] at h
          rw [parseP.eq_def ende (f + 1 + 1), parseP.eq_def ende (f + 1)]
          simp only
          by_cases h4 : t.k = 4
          · rw [if_pos h4] at h ⊢
            rw [if_pos h4]
            by_cases hc : (lookM infixL t.t).getD 0 = 0 ∨ strengthZ ((lookM infixL t.t).getD 0) ≠ least
            · rw [if_pos hc, if_pos hc]
            · rw [if_neg hc] at h ⊢
              rw [if_neg hc]
              refine hb _ _ _ _ _ (fun ts1 out1 i1 hg => ?_) h
              by_cases h1 : least = 1
              · rw [if_pos h1, if_pos h1]
              · rw [if_neg h1] at hg ⊢
                rw [if_neg h1]
                exact ih _ _ _ hg
          · rw [if_neg h4, if_neg h4]
      | prim =>
        rw [parseP.eq_def] at h
        rw [parseP.eq_def ende (f + 1 + 1), parseP.eq_def ende (f + 1)]
        simp only at h ⊢
        by_cases hs : seesP ts 0 [40] = true
        · rw [if_pos hs] at h ⊢
          rw [if_pos hs]
          exact hb _ _ _ _ _ (fun _ _ _ _ => rfl) h
        · rw [if_neg hs] at h ⊢
          rw [if_neg hs]
          cases ts with
          | nil => rfl
          | cons t r =>
            simp only at h ⊢
            by_cases h1 : t.k ≠ 2 ∧ t.k ≠ 1
            · rw [if_pos h1, if_pos h1]
            · rw [if_neg h1] at h ⊢
              rw [if_neg h1]
              by_cases h2 : t.k = 2 ∧ 1000000 < t.n
              · rw [if_pos h2, if_pos h2]
              · rw [if_neg h2] at h ⊢
                rw [if_neg h2]
                by_cases h3 : t.k = 2
                · rw [if_pos h3, if_pos h3]
                · rw [if_neg h3] at h ⊢
                  rw [if_neg h3]
                  by_cases h5 : (lookM functionsL t.t).getD 0 = 0 ∧ seesP (t :: r) 1 [40] = true
                  · rw [if_pos h5, if_pos h5]
                  · rw [if_neg h5] at h ⊢
                    rw [if_neg h5]
                    by_cases h6 : (lookM functionsL t.t).getD 0 = 0
                    · rw [if_pos h6, if_pos h6]
                    · rw [if_neg h6] at h ⊢
                      rw [if_neg h6]
                      have hne : argsP ende f (opsZ ((lookM functionsL t.t).getD 0)).toNat true r out [] ≠ .stop := fun e => h (by rw [e]; rfl)
                      rw [iha _ _ _ _ _ hne]
    · cases n with
      | zero => rw [argsP, argsP]
      | succ n =>
        rw [argsP] at h
        rw [argsP.eq_def ende (f + 1 + 1), argsP.eq_def ende (f + 1)]
        simp only
        by_cases hs : seesP ts 0 (if b = true then [40] else [44]) = true
        · rw [if_pos hs] at h ⊢
          rw [if_pos hs]
          exact hbA _ _ _ _ _ (fun _ _ _ h => iha _ _ _ _ _ h) h
        · rw [if_neg hs, if_neg hs]
theorem parse_more (ende : Int) (m : Md) (ts : List Tok) (out : List S53) (f g : Nat) (h : parseP ende f m ts out ≠ .stop) (hg : f ≤ g) : parseP ende g m ts out = parseP ende f m ts out := by
  obtain ⟨d, rfl⟩ : ∃ d, g = f + d := ⟨g - f, by omega⟩
  clear hg
  induction d with
  | zero => rfl
  | succ d ih => rw [← Nat.add_assoc, (more_all ende (f + d)).1 m ts out (by rw [ih]; exact h), ih]

/-! ### what the parser reads, with rounds enough -/
def Ev (m : Md) (ts : List Tok) (out : List S53) (r : PR) : Prop := ∃ f0, ∀ f, f0 ≤ f → parseP 0 f m ts out = r
def EvA (n : Nat) (b : Bool) (ts : List Tok) (out : List S53) (kids : List Int) (r : AR) : Prop := ∃ f0, ∀ f, f0 ≤ f → argsP 0 f n b ts out kids = r
def tkS (s : List UInt8) : Tok := ⟨4, s, 0, 0⟩
def tkN (s : List UInt8) : Tok := ⟨1, s, 0, 0⟩
def tkZ (s : List UInt8) (n : Int) : Tok := ⟨2, s, n, 0⟩
theorem tkS_k (s : List UInt8) : (tkS s).k = 4 := rfl
theorem tkN_k (s : List UInt8) : (tkN s).k = 1 := rfl
theorem tkZ_k (s : List UInt8) (n : Int) : (tkZ s n).k = 2 := rfl
theorem sees_S (s : List UInt8) (r : List Tok) : seesP (tkS s :: r) 0 s = true := by unfold seesP tkS; simp
theorem sees_hd (t : Tok) (r : List Tok) (s : List UInt8) : seesP (t :: r) 0 s = (t.k == 4 && t.t == s) := rfl
theorem Ev.neg {ts out ts' out' i} (h : Ev (.lvl 4) ts out (.ok ts' out' i)) : Ev (.lvl 4) (tkS [45] :: ts) out (.ok ts' (out' ++ [⟨12, 0, ⟨#[]⟩, [i]⟩]) out'.length) := by
  obtain ⟨f0, h⟩ := h
  refine ⟨f0 + 1, fun f hf => ?_⟩
  obtain ⟨g, rfl⟩ : ∃ g, f = g + 1 := ⟨f - 1, by omega⟩
  rw [parseP, if_pos rfl, if_pos (by rw [sees_hd]; simp [tkS])]
  show (parseP 0 g (.lvl 4) ts out).bind _ = _
  rw [h g (by omega)]
  rfl
theorem Ev.prim {ts out r} (hs : seesP ts 0 [45] = false) (h : Ev .prim ts out r) : Ev (.lvl 4) ts out r := by
  obtain ⟨f0, h⟩ := h
  refine ⟨f0 + 1, fun f hf => ?_⟩
  obtain ⟨g, rfl⟩ : ∃ g, f = g + 1 := ⟨f - 1, by omega⟩
  rw [parseP, if_pos rfl, if_neg (by simp [hs]), h g (by omega)]
theorem Ev.lvl {l : Int} {ts out ts' out' a r} (hl : l ≠ 4) (h : Ev (.lvl (l + 1)) ts out (.ok ts' out' a)) (h' : Ev (.loop l a) ts' out' r) : Ev (.lvl l) ts out r := by
  obtain ⟨f0, h⟩ := h
  obtain ⟨f1, h'⟩ := h'
  refine ⟨f0 + f1 + 1, fun f hf => ?_⟩
  obtain ⟨g, rfl⟩ : ∃ g, f = g + 1 := ⟨f - 1, by omega⟩
  rw [parseP, if_neg hl, h g (by omega)]
  exact h' g (by omega)
/-- What follows does not go on at the strength l or above, nor does it open a call. -/
def Stops (l : Int) (rest : List Tok) : Prop := ∀ t r, rest = t :: r → t.k = 4 → ((lookM infixL t.t).getD 0 = 0 ∨ strengthZ ((lookM infixL t.t).getD 0) < l) ∧ t.t ≠ [40]
theorem Stops.mono {l k : Int} {rest : List Tok} (h : Stops l rest) (hk : l ≤ k) : Stops k rest := fun t r e h4 => ⟨(h t r e h4).1.imp id (fun h => by omega), (h t r e h4).2⟩
theorem Ev.done {l : Int} {rest : List Tok} (a : Int) (out : List S53) (h : Stops l rest) : Ev (.loop l a) rest out (.ok rest out a) := by
  refine ⟨1, fun f hf => ?_⟩
  obtain ⟨g, rfl⟩ : ∃ g, f = g + 1 := ⟨f - 1, by omega⟩
  cases rest with
  | nil => rw [parseP]
  | cons t r =>
    rw [parseP]
    by_cases h4 : t.k = 4
    · rw [if_pos h4, if_pos]
      exact (h t r rfl h4).1.imp id (fun h => by omega)
    · rw [if_neg h4]
theorem Ev.more {l op a b : Int} {s : List UInt8} {ts out ts' out' r} (hop : (lookM infixL s).getD 0 = op) (h0 : op ≠ 0) (hl : strengthZ op = l) (h1 : l ≠ 1)
    (h : Ev (.lvl (l + 1)) ts out (.ok ts' out' b)) (h' : Ev (.loop l out'.length) ts' (out' ++ [⟨op, 0, ⟨#[]⟩, [a, b]⟩]) r) : Ev (.loop l a) (tkS s :: ts) out r := by
  obtain ⟨f0, h⟩ := h
  obtain ⟨f1, h'⟩ := h'
  refine ⟨f0 + f1 + 1, fun f hf => ?_⟩
  obtain ⟨g, rfl⟩ : ∃ g, f = g + 1 := ⟨f - 1, by omega⟩
  rw [parseP, if_pos (tkS_k s), if_neg (show ¬ ((lookM infixL (tkS s).t).getD 0 = 0 ∨ strengthZ ((lookM infixL (tkS s).t).getD 0) ≠ l) by show ¬ ((lookM infixL s).getD 0 = 0 ∨ strengthZ ((lookM infixL s).getD 0) ≠ l); rw [hop, hl]; omega), h g (by omega)]
  show (if l = 1 then _ else _) = _
  rw [if_neg h1]
  show parseP 0 g (.loop l out'.length) ts' (out' ++ [⟨(lookM infixL s).getD 0, 0, ⟨#[]⟩, [a, b]⟩]) = r
  rw [hop]
  exact h' g (by omega)
theorem Ev.last {op a b : Int} {s : List UInt8} {ts out ts' out'} (hop : (lookM infixL s).getD 0 = op) (h0 : op ≠ 0) (hl : strengthZ op = 1)
    (h : Ev (.lvl 2) ts out (.ok ts' out' b)) : Ev (.loop 1 a) (tkS s :: ts) out (.ok ts' (out' ++ [⟨op, 0, ⟨#[]⟩, [a, b]⟩]) out'.length) := by
  obtain ⟨f0, h⟩ := h
  refine ⟨f0 + 1, fun f hf => ?_⟩
  obtain ⟨g, rfl⟩ : ∃ g, f = g + 1 := ⟨f - 1, by omega⟩
  rw [parseP, if_pos (tkS_k s), if_neg (show ¬ ((lookM infixL (tkS s).t).getD 0 = 0 ∨ strengthZ ((lookM infixL (tkS s).t).getD 0) ≠ 1) by show ¬ ((lookM infixL s).getD 0 = 0 ∨ strengthZ ((lookM infixL s).getD 0) ≠ 1); rw [hop, hl]; omega), show (1 : Int) + 1 = 2 from rfl, h g (by omega)]
  show (if (1 : Int) = 1 then PR.ok ts' (out' ++ [⟨(lookM infixL s).getD 0, 0, ⟨#[]⟩, [a, b]⟩]) out'.length else parseP 0 g (.loop 1 out'.length) ts' (out' ++ [⟨(lookM infixL s).getD 0, 0, ⟨#[]⟩, [a, b]⟩])) = _
  rw [if_pos rfl, hop]
theorem Ev.paren {ts out ts' out' a} (h : Ev (.lvl 1) ts out (.ok (tkS [41] :: ts') out' a)) : Ev .prim (tkS [40] :: ts) out (.ok ts' out' a) := by
  obtain ⟨f0, h⟩ := h
  refine ⟨f0 + 1, fun f hf => ?_⟩
  obtain ⟨g, rfl⟩ : ∃ g, f = g + 1 := ⟨f - 1, by omega⟩
  rw [parseP.eq_def]
  simp only
  rw [if_pos (sees_S [40] ts)]
  show (parseP 0 g (.lvl 1) ts out).bind _ = _
  rw [h g (by omega)]
  rfl
theorem Ev.num {s : List UInt8} {n : Int} (ts : List Tok) (out : List S53) (h : n ≤ 1000000) : Ev .prim (tkZ s n :: ts) out (.ok ts (out ++ [⟨1, n, ⟨#[]⟩, []⟩]) out.length) := by
  refine ⟨1, fun f hf => ?_⟩
  obtain ⟨g, rfl⟩ : ∃ g, f = g + 1 := ⟨f - 1, by omega⟩
  rw [parseP.eq_def]
  simp only
  rw [if_neg (by rw [sees_hd]; simp [tkZ]), if_neg (by simp [tkZ]), if_neg (by simp [tkZ]; omega), if_pos (tkZ_k s n)]
  rfl
theorem sees_one (t : Tok) (rest : List Tok) {l : Int} (h : Stops l rest) : seesP (t :: rest) 1 [40] = false := by
  show seesP rest 0 [40] = false
  cases rest with
  | nil => rfl
  | cons u r =>
    rw [sees_hd]
    by_cases h4 : u.k = 4
    · have := (h u r rfl h4).2
      simp [this]
    · simp [h4]
theorem Ev.nm {s : List UInt8} {l : Int} (ts : List Tok) (out : List S53) (h : (lookM functionsL s).getD 0 = 0) (hs : Stops l ts) : Ev .prim (tkN s :: ts) out (.ok ts (out ++ [⟨2, 0, ⟨s.toArray⟩, []⟩]) out.length) := by
  refine ⟨1, fun f hf => ?_⟩
  obtain ⟨g, rfl⟩ : ∃ g, f = g + 1 := ⟨f - 1, by omega⟩
  rw [parseP.eq_def]
  simp only
  rw [if_neg (by rw [sees_hd]; simp [tkN]), if_neg (by simp [tkN]), if_neg (by simp [tkN]), if_neg (by simp [tkN]), if_neg (by rw [sees_one _ _ hs]; simp), if_pos (show (lookM functionsL (tkN s).t).getD 0 = 0 from h)]
  rfl
theorem Ev.call {s : List UInt8} {op : Int} {n : Nat} {ts out ts' out' kids} (h : (lookM functionsL s).getD 0 = op) (h0 : op ≠ 0) (hn : (opsZ op).toNat = n)
    (hk : EvA n true ts out [] (.ok (tkS [41] :: ts') out' kids)) : Ev .prim (tkN s :: ts) out (.ok ts' (out' ++ [⟨op, 0, ⟨#[]⟩, kids⟩]) out'.length) := by
  obtain ⟨f0, hk⟩ := hk
  refine ⟨f0 + 1, fun f hf => ?_⟩
  obtain ⟨g, rfl⟩ : ∃ g, f = g + 1 := ⟨f - 1, by omega⟩
  rw [parseP.eq_def]
  simp only
  have ht : (tkN s).t = s := rfl
  rw [if_neg (by rw [sees_hd]; simp [tkN]), if_neg (by simp [tkN]), if_neg (by simp [tkN]), if_neg (by simp [tkN]), ht, h, if_neg (by simp [h0]), if_neg h0, hn, hk g (by omega)]
  rfl
theorem EvA.nil (ts : List Tok) (out : List S53) (kids : List Int) (b : Bool) : EvA 0 b ts out kids (.ok ts out kids) := by
  refine ⟨1, fun f hf => ?_⟩
  obtain ⟨g, rfl⟩ : ∃ g, f = g + 1 := ⟨f - 1, by omega⟩
  rw [argsP]
theorem EvA.cons {n : Nat} {b : Bool} {s : List UInt8} {ts out kids ts' out' i r} (hs : (if b = true then [40] else [44]) = s) (h : Ev (.lvl 1) ts out (.ok ts' out' i)) (h' : EvA n false ts' out' (kids ++ [i]) r) :
    EvA (n + 1) b (tkS s :: ts) out kids r := by
  obtain ⟨f0, h⟩ := h
  obtain ⟨f1, h'⟩ := h'
  refine ⟨f0 + f1 + 1, fun f hf => ?_⟩
  obtain ⟨g, rfl⟩ : ∃ g, f = g + 1 := ⟨f - 1, by omega⟩
  rw [argsP, hs, sees_hd, if_pos (by simp [tkS])]
  show (parseP 0 g (.lvl 1) ts out).bindA _ = _
  rw [h g (by omega)]
  exact h' g (by omega)
end Go.Proofs.YtenecpmonodjaaaDoor.PAll

/- The canonical text of a tree, and its tokens: in Lean alone. -/
namespace Go.Proofs.YtenecpmonodjaaaDoor.PAll
open Go.RowKit Go.Proofs.YtenecpmonodjaaaDoorW.PrintWords Go.Proofs.YtenecpmonodjaaaDoorW.PrintLast Go.Proofs.YtenecpmonodjaaaDoorW.PrintMore
open Go.Proofs.YtenecpmonodjaaaDoor.Obs
set_option linter.unusedVariables false
set_option linter.unusedSimpArgs false

def T.op : T → Int
  | .num _ => 1
  | .name _ => 2
  | .neg _ => 12
  | .bin op _ _ => op
  | .ite _ _ _ => 9
def parB (c : Bool) (s : List UInt8) : List UInt8 := if c then 40 :: (s ++ [41]) else s
def parK (c : Bool) (s : List Tok) : List Tok := if c then tkS [40] :: (s ++ [tkS [41]]) else s
def weaker (t : T) (l : Int) : Bool := decide (strengthZ t.op < l)
/-- How strongly the operands have to bind: the left one, the right one. -/
def leftZ (op : Int) : Int := if strengthZ op = 1 then 2 else strengthZ op
def T.body : T → List UInt8
  | .num n => Lib.decDigits n.toNat
  | .name s => s.data.toList
  | .neg a => 45 :: parB (weaker a 4) a.body
  | .bin op a b =>
    if strengthZ op = 5 then nameM functionsL op ++ 40 :: (a.body ++ 44 :: 32 :: (b.body ++ [41]))
    else parB (weaker a (leftZ op)) a.body ++ 32 :: (nameM infixL op ++ 32 :: parB (weaker b (strengthZ op + 1)) b.body)
  | .ite a b c => nameM functionsL 9 ++ 40 :: (a.body ++ 44 :: 32 :: (b.body ++ 44 :: 32 :: (c.body ++ [41])))
def T.toks : T → List Tok
  | .num n => [tkZ (Lib.decDigits n.toNat) n]
  | .name s => [tkN s.data.toList]
  | .neg a => tkS [45] :: parK (weaker a 4) a.toks
  | .bin op a b =>
    if strengthZ op = 5 then tkN (nameM functionsL op) :: tkS [40] :: (a.toks ++ tkS [44] :: (b.toks ++ [tkS [41]]))
    else parK (weaker a (leftZ op)) a.toks ++ tkS (nameM infixL op) :: parK (weaker b (strengthZ op + 1)) b.toks
  | .ite a b c => tkN (nameM functionsL 9) :: tkS [40] :: (a.toks ++ tkS [44] :: (b.toks ++ tkS [44] :: (c.toks ++ [tkS [41]])))
def T.txt (t : T) (l : Int) : List UInt8 := parB (weaker t l) t.body

theorem strength_cases (op : Int) (h : opsZ op = 2) : (op = 10 ∨ op = 11) ∨ (op = 3 ∨ op = 4) ∨ (op = 5 ∨ op = 6) ∨ (op = 7 ∨ op = 8) := by
  rcases ops_cases op with h' | h' | h' | h' | h' <;> omega
theorem strength_pos (op : Int) : 1 ≤ strengthZ op := by unfold strengthZ; (repeat' split) <;> omega
theorem strength_le (op : Int) : strengthZ op ≤ 5 := by unfold strengthZ; (repeat' split) <;> omega
theorem txt_one (t : T) : t.txt 1 = t.body := by
  have := strength_pos t.op
  unfold T.txt weaker
  rw [decide_eq_false (by omega)]
  rfl

/-! ### the parser reads the tokens -/
def RdL (l : Int) (toks : List Tok) (t : T) : Prop := ∀ (rest : List Tok) (out : List S53) (R : PR), Stops (l + 1) rest →
  Ev (.loop l (((out.length + t.size : Nat) : Int) - 1)) rest (out ++ t.flat out.length) R → Ev (.lvl l) (toks ++ rest) out R
def RdE (l : Int) (toks : List Tok) (t : T) : Prop := ∀ (rest : List Tok) (out : List S53), Stops l rest →
  Ev (.lvl l) (toks ++ rest) out (.ok rest (out ++ t.flat out.length) (((out.length + t.size : Nat) : Int) - 1))
theorem RdE.loop {l : Int} {toks : List Tok} {t : T} (h : RdE (l + 1) toks t) (hl : l ≠ 4) : RdL l toks t := fun rest out R hs hR => Ev.lvl hl (h rest out hs) hR
theorem RdL.ends {l : Int} {toks : List Tok} {t : T} (h : RdL l toks t) : RdE l toks t := fun rest out hs => h rest out _ (hs.mono (by omega)) (Ev.done _ _ hs)
theorem stops_sym (s : List UInt8) (rest : List Tok) (h : lookM infixL s = none) (h2 : s ≠ [40]) (l : Int) : Stops l (tkS s :: rest) := by
  intro t r e _
  injection e with e _
  subst e
  exact ⟨.inl (by show (lookM infixL s).getD 0 = 0; rw [h]; rfl), h2⟩
theorem stops_op (op : Int) (rest : List Tok) (l : Int) (h : (lookM infixL (nameM infixL op)).getD 0 = op) (h2 : strengthZ op < l) (h3 : nameM infixL op ≠ [40]) : Stops l (tkS (nameM infixL op) :: rest) := by
  intro t r e _
  injection e with e _
  subst e
  exact ⟨.inr (by show strengthZ ((lookM infixL (nameM infixL op)).getD 0) < l; rw [h]; exact h2), h3⟩
theorem RdE.paren {toks : List Tok} {t : T} (h : RdE 1 toks t) : RdE 4 (tkS [40] :: (toks ++ [tkS [41]])) t := by
  intro rest out hs
  show Ev (.lvl 4) (tkS [40] :: ((toks ++ [tkS [41]]) ++ rest)) out _
  refine Ev.prim rfl (Ev.paren ?_)
  rw [List.append_assoc]
  exact h (tkS [41] :: rest) out (stops_sym _ _ (by decide) (by decide) _)
/-- How the parser reads a tree's text, at every strength. -/
structure Rd (t : T) : Prop where
  one : RdE 1 t.toks t
  two : RdL 2 (parK (weaker t 2) t.toks) t
  three : RdL 3 (parK (weaker t 3) t.toks) t
  four : RdE 4 (parK (weaker t 4) t.toks) t
theorem parK_of {t : T} {l : Int} (h : l ≤ strengthZ t.op) : parK (weaker t l) t.toks = t.toks := by
  unfold weaker; rw [decide_eq_false (by omega)]; rfl
theorem parK_on {t : T} {l : Int} (h : strengthZ t.op < l) : parK (weaker t l) t.toks = tkS [40] :: (t.toks ++ [tkS [41]]) := by
  unfold weaker; rw [decide_eq_true h]; rfl
theorem Rd.of4 {t : T} (hs : 4 ≤ strengthZ t.op) (h : RdE 4 t.toks t) : Rd t := by
  have h3 := RdE.loop (l := 3) h (by decide)
  have h2 := RdE.loop (l := 2) h3.ends (by decide)
  have h1 := RdE.loop (l := 1) h2.ends (by decide)
  exact ⟨h1.ends, by rw [parK_of (by omega)]; exact h2, by rw [parK_of (by omega)]; exact h3, by rw [parK_of (by omega)]; exact h⟩
theorem Rd.of3 {t : T} (hs : strengthZ t.op = 3) (h3 : RdL 3 t.toks t) : Rd t := by
  have h2 := RdE.loop (l := 2) h3.ends (by decide)
  have h1 := RdE.loop (l := 1) h2.ends (by decide)
  exact ⟨h1.ends, by rw [parK_of (by omega)]; exact h2, by rw [parK_of (by omega)]; exact h3, by rw [parK_on (by omega)]; exact h1.ends.paren⟩
theorem Rd.of2 {t : T} (hs : strengthZ t.op = 2) (h2 : RdL 2 t.toks t) : Rd t := by
  have h1 := RdE.loop (l := 1) h2.ends (by decide)
  have h4 := h1.ends.paren
  exact ⟨h1.ends, by rw [parK_of (by omega)]; exact h2, by rw [parK_on (by omega)]; exact RdE.loop (l := 3) h4 (by decide), by rw [parK_on (by omega)]; exact h4⟩
theorem Rd.of1 {t : T} (hs : strengthZ t.op = 1) (h1 : RdE 1 t.toks t) : Rd t := by
  have h4 := h1.paren
  have h3 := RdE.loop (l := 3) h4 (by decide)
  exact ⟨h1, by rw [parK_on (by omega)]; exact RdE.loop (l := 2) h3.ends (by decide), by rw [parK_on (by omega)]; exact h3, by rw [parK_on (by omega)]; exact h4⟩
theorem ident_fun {s : ByteArray} (h : identL s.data.toList = true) : (lookM functionsL s.data.toList).getD 0 = 0 := by
  unfold identL identOk at h
  split at h
  · simp only [Bool.and_eq_true, Option.isNone_iff_eq_none] at h
    rw [h.2]; rfl
  · cases h
theorem flat_bin (op : Int) (a b : T) (out : List S53) : (((out ++ a.flat out.length) ++ b.flat (out ++ a.flat out.length).length) ++ [⟨op, 0, ⟨#[]⟩, [((out.length + a.size : Nat) : Int) - 1, (((out ++ a.flat out.length).length + b.size : Nat) : Int) - 1]⟩] : List S53) = out ++ (T.bin op a b).flat out.length ∧
    ((((out ++ a.flat out.length) ++ b.flat (out ++ a.flat out.length).length).length : Nat) : Int) = ((out.length + (T.bin op a b).size : Nat) : Int) - 1 := by
  have hl : (out ++ a.flat out.length).length = out.length + a.size := by rw [List.length_append, T.flat_len]
  rw [hl]
  refine ⟨?_, ?_⟩
  · simp only [T.flat, List.append_assoc]
  · rw [List.length_append, hl, T.flat_len]
    simp only [T.size]
    omega
theorem Rd.infix {op : Int} {a b : T} (hop : (op = 10 ∨ op = 11) ∨ (op = 3 ∨ op = 4) ∨ (op = 5 ∨ op = 6)) (ha : Rd a) (hb : Rd b) : Rd (.bin op a b) := by
  have hne : strengthZ op ≠ 5 := by rcases hop with (rfl | rfl) | (rfl | rfl) | (rfl | rfl) <;> decide
  have hlook : (lookM infixL (nameM infixL op)).getD 0 = op := by rcases hop with (rfl | rfl) | (rfl | rfl) | (rfl | rfl) <;> decide
  have hpar : nameM infixL op ≠ [40] := by rcases hop with (rfl | rfl) | (rfl | rfl) | (rfl | rfl) <;> decide
  have h0 : op ≠ 0 := by omega
  have htoks : (T.bin op a b).toks = parK (weaker a (leftZ op)) a.toks ++ tkS (nameM infixL op) :: parK (weaker b (strengthZ op + 1)) b.toks := by
    simp only [T.toks]; rw [if_neg hne]
  rcases hop with h | h | h
  · have hs : strengthZ op = 1 := by rcases h with rfl | rfl <;> rfl
    have hl : leftZ op = 2 := by unfold leftZ; rw [if_pos hs]
    rw [hl, hs] at htoks
    refine Rd.of1 hs ?_
    intro rest out hst
    rw [htoks, List.append_assoc]
    obtain ⟨e1, e2⟩ := flat_bin op a b out
    have h2 := hb.two.ends rest (out ++ a.flat out.length) (hst.mono (by omega))
    have h1 := Ev.last (a := ((out.length + a.size : Nat) : Int) - 1) hlook h0 hs h2
    rw [e1, e2] at h1
    exact Ev.lvl (by decide) (ha.two.ends (tkS (nameM infixL op) :: (parK (weaker b 2) b.toks ++ rest)) out (stops_op op _ _ hlook (by omega) hpar)) h1
  · have hs : strengthZ op = 2 := by rcases h with rfl | rfl <;> rfl
    have hl : leftZ op = 2 := by unfold leftZ; rw [if_neg (by omega), hs]
    rw [hl, hs] at htoks
    refine Rd.of2 hs ?_
    intro rest out R hst hR
    rw [htoks, List.append_assoc]
    obtain ⟨e1, e2⟩ := flat_bin op a b out
    refine ha.two (tkS (nameM infixL op) :: (parK (weaker b 3) b.toks ++ rest)) out R (stops_op op _ _ hlook (by omega) hpar) ?_
    refine Ev.more hlook h0 hs (by decide) (hb.three.ends rest (out ++ a.flat out.length) hst) ?_
    rw [e1, e2]
    exact hR
  · have hs : strengthZ op = 3 := by rcases h with rfl | rfl <;> rfl
    have hl : leftZ op = 3 := by unfold leftZ; rw [if_neg (by omega), hs]
    rw [hl, hs] at htoks
    refine Rd.of3 hs ?_
    intro rest out R hst hR
    rw [htoks, List.append_assoc]
    obtain ⟨e1, e2⟩ := flat_bin op a b out
    refine ha.three (tkS (nameM infixL op) :: (parK (weaker b 4) b.toks ++ rest)) out R (stops_op op _ _ hlook (by omega) hpar) ?_
    refine Ev.more hlook h0 hs (by decide) (hb.four rest (out ++ a.flat out.length) hst) ?_
    rw [e1, e2]
    exact hR
theorem stops_comma (rest : List Tok) : Stops 1 (tkS [44] :: rest) := stops_sym _ _ (by decide) (by decide) _
theorem stops_close (rest : List Tok) : Stops 1 (tkS [41] :: rest) := stops_sym _ _ (by decide) (by decide) _
theorem Rd.call2 {op : Int} {a b : T} (hop : op = 7 ∨ op = 8) (ha : Rd a) (hb : Rd b) : Rd (.bin op a b) := by
  have hs : strengthZ op = 5 := by rcases hop with rfl | rfl <;> decide
  have hlook : (lookM functionsL (nameM functionsL op)).getD 0 = op := by rcases hop with rfl | rfl <;> decide
  have hn : (opsZ op).toNat = 2 := by rcases hop with rfl | rfl <;> decide
  refine Rd.of4 (by show 4 ≤ strengthZ op; omega) ?_
  intro rest out hst
  have htoks : (T.bin op a b).toks ++ rest = tkN (nameM functionsL op) :: tkS [40] :: (a.toks ++ tkS [44] :: (b.toks ++ tkS [41] :: rest)) := by
    simp only [T.toks]; rw [if_pos hs]; simp
  rw [htoks]
  obtain ⟨e1, e2⟩ := flat_bin op a b out
  have h := Ev.call (kids := [((out.length + a.size : Nat) : Int) - 1, (((out ++ a.flat out.length).length + b.size : Nat) : Int) - 1]) (ts' := rest) (out := out) (ts := tkS [40] :: (a.toks ++ tkS [44] :: (b.toks ++ tkS [41] :: rest))) hlook (by omega) hn
    (EvA.cons rfl (ha.one (tkS [44] :: (b.toks ++ tkS [41] :: rest)) out (stops_comma _)) (EvA.cons rfl (hb.one (tkS [41] :: rest) (out ++ a.flat out.length) (stops_close _)) (EvA.nil _ _ _ _)))
  rw [e1, e2] at h
  exact Ev.prim rfl h
theorem Rd.call3 {a b c : T} (ha : Rd a) (hb : Rd b) (hc : Rd c) : Rd (.ite a b c) := by
  refine Rd.of4 (by show 4 ≤ strengthZ 9; decide) ?_
  intro rest out hst
  have htoks : (T.ite a b c).toks ++ rest = tkN (nameM functionsL 9) :: tkS [40] :: (a.toks ++ tkS [44] :: (b.toks ++ tkS [44] :: (c.toks ++ tkS [41] :: rest))) := by
    simp only [T.toks]; simp
  rw [htoks]
  have h := Ev.call (op := 9) (n := 3) (s := nameM functionsL 9) (ts' := rest) (out := out) (ts := tkS [40] :: (a.toks ++ tkS [44] :: (b.toks ++ tkS [44] :: (c.toks ++ tkS [41] :: rest)))) (by decide) (by decide) (by decide)
    (EvA.cons rfl (ha.one (tkS [44] :: (b.toks ++ tkS [44] :: (c.toks ++ tkS [41] :: rest))) out (stops_comma _)) (EvA.cons rfl (hb.one (tkS [44] :: (c.toks ++ tkS [41] :: rest)) (out ++ a.flat out.length) (stops_comma _))
      (EvA.cons rfl (hc.one (tkS [41] :: rest) ((out ++ a.flat out.length) ++ b.flat (out ++ a.flat out.length).length) (stops_close _)) (EvA.nil _ _ _ _))))
  have hl : (out ++ a.flat out.length).length = out.length + a.size := by rw [List.length_append, T.flat_len]
  have hl2 : ((out ++ a.flat out.length) ++ b.flat (out ++ a.flat out.length).length).length = out.length + a.size + b.size := by rw [List.length_append, hl, T.flat_len]
  have hl3 : (((out ++ a.flat out.length) ++ b.flat (out ++ a.flat out.length).length) ++ c.flat ((out ++ a.flat out.length) ++ b.flat (out ++ a.flat out.length).length).length).length = out.length + a.size + b.size + c.size := by rw [List.length_append, hl2, T.flat_len]
  rw [hl3, hl2, hl] at h
  have e1 : (((out ++ a.flat out.length) ++ b.flat (out.length + a.size)) ++ c.flat (out.length + a.size + b.size)) ++ [(⟨9, 0, ⟨#[]⟩, [] ++ [((out.length + a.size : Nat) : Int) - 1] ++ [((out.length + a.size + b.size : Nat) : Int) - 1] ++ [((out.length + a.size + b.size + c.size : Nat) : Int) - 1]⟩ : S53)] = out ++ (T.ite a b c).flat out.length := by
    simp only [T.flat, List.append_assoc, List.nil_append, List.cons_append]
  have e2 : ((out.length + a.size + b.size + c.size : Nat) : Int) = ((out.length + (T.ite a b c).size : Nat) : Int) - 1 := by simp only [T.size]; omega
  rw [e1] at h
  rw [← e2]
  exact Ev.prim rfl h
theorem rd_all : ∀ t : T, t.ok → Rd t
  | .num n, h => Rd.of4 (by show 4 ≤ strengthZ 1; decide) (fun rest out hs => by
      refine Ev.prim rfl ?_
      have e : ((out.length + (T.num n).size : Nat) : Int) - 1 = out.length := by simp only [T.size]; omega
      rw [e]
      exact Ev.num rest out h.2)
  | .name s, h => Rd.of4 (by show 4 ≤ strengthZ 2; decide) (fun rest out hs => by
      refine Ev.prim rfl ?_
      have e : ((out.length + (T.name s).size : Nat) : Int) - 1 = out.length := by simp only [T.size]; omega
      rw [e]
      exact Ev.nm rest out (ident_fun h) hs)
  | .neg a, h => Rd.of4 (by show 4 ≤ strengthZ 12; decide) (fun rest out hs => by
      have h1 := Ev.neg ((rd_all a h).four rest out hs)
      have hl : (out ++ a.flat out.length).length = out.length + a.size := by rw [List.length_append, T.flat_len]
      have e : ((out.length + (T.neg a).size : Nat) : Int) - 1 = ((out.length + a.size : Nat) : Int) := by simp only [T.size]; omega
      rw [hl] at h1
      rw [e]
      simp only [T.flat]
      rw [← List.append_assoc]
      exact h1)
  | .bin op a b, h => by
    rcases strength_cases op h.1 with h1 | h1 | h1 | h1
    · exact Rd.infix (.inl h1) (rd_all a h.2.1) (rd_all b h.2.2)
    · exact Rd.infix (.inr (.inl h1)) (rd_all a h.2.1) (rd_all b h.2.2)
    · exact Rd.infix (.inr (.inr h1)) (rd_all a h.2.1) (rd_all b h.2.2)
    · exact Rd.call2 h1 (rd_all a h.2.1) (rd_all b h.2.2)
  | .ite a b c, h => Rd.call3 (rd_all a h.1) (rd_all b h.2.1) (rd_all c h.2.2)
/-- What is parsed out of tokens without places. -/
theorem parse_ev {s : List UInt8} {ts : List Tok} {out : List S53} {i : Int} (hl : lex s = .ok ts) (h : Ev (.lvl 1) (ts0 ts) [] (.ok [] out i)) : parseX s = if validX out = true then (out, 0, 0) else ([], 2, 0) := by
  obtain ⟨f0, h⟩ := h
  have hlen : (ts0 ts).length = ts.length := by unfold ts0; rw [List.length_map]
  have hf := parse_fuel 0 (8 * ts.length + 8) (ts0 ts) [] (by rw [hlen]; omega)
  have h1 := parse_more 0 (.lvl 1) (ts0 ts) [] (8 * ts.length + 8) (8 * ts.length + 8 + f0) hf (by omega)
  rw [h _ (by omega)] at h1
  have h2 := parse0 s.length (8 * ts.length + 8) (.lvl 1) ts []
  rw [← h1] at h2
  unfold parseX
  rw [hl]
  simp only
  cases hq : parseP s.length (8 * ts.length + 8) (.lvl 1) ts [] with
  | stop => rw [hq] at h2; cases h2
  | fail e a => rw [hq] at h2; cases h2
  | ok ts' out' i' =>
    rw [hq] at h2
    injection h2 with e1 e2 e3
    subst e2
    cases ts' with
    | nil => rfl
    | cons t r => cases e1
end Go.Proofs.YtenecpmonodjaaaDoor.PAll

/- The canonical text of a tree is lexed as its tokens; it is parsed as the tree: in Lean alone. -/
namespace Go.Proofs.YtenecpmonodjaaaDoor.PAll
open Go.RowKit Go.Proofs.YtenecpmonodjaaaDoorW.PrintWords Go.Proofs.YtenecpmonodjaaaDoorW.PrintLast Go.Proofs.YtenecpmonodjaaaDoorW.PrintMore
open Go.Proofs.YtenecpmonodjaaaDoor.Obs
set_option linter.unusedVariables false
set_option linter.unusedSimpArgs false

/-- The text s is the tokens ks, places apart. -/
def LK (b : Bool) (s : List UInt8) (ks : List Tok) : Prop := ∃ ts, ts0 ts = ks ∧ LX b s ts
theorem LK.app {b b' : Bool} {s s' : List UInt8} {ks ks' : List Tok} (h : LK b s ks) (h' : LK b' s' ks') (hs : b = true → ∀ rest, (b' = true → SafeB rest) → SafeB (s' ++ rest)) : LK b' (s ++ s') (ks ++ ks') := by
  obtain ⟨ts, rfl, h⟩ := h
  obtain ⟨ts', rfl, h'⟩ := h'
  refine ⟨_, ?_, LX.app h h' hs⟩
  unfold ts0
  rw [List.map_append, List.map_map]
  rfl
theorem LK.cons {b' : Bool} {c : UInt8} {s' : List UInt8} {k : Tok} {ks' : List Tok} (h : LK false [c] [k]) (h' : LK b' s' ks') : LK b' (c :: s') (k :: ks') := LK.app h h' (fun h => by cases h)
theorem LK.weak {b : Bool} {s : List UInt8} {ks : List Tok} (h : LK false s ks) : LK b s ks := by obtain ⟨ts, e, h⟩ := h; exact ⟨ts, e, h.weak⟩
theorem LK.blank {b' : Bool} {s' : List UInt8} {ks' : List Tok} (h' : LK b' s' ks') : LK b' (32 :: s') ks' := LK.app (s := [32]) (ks := []) ⟨[], rfl, LX.blank 32 rfl⟩ h' (fun h => by cases h)
theorem LK.sym (c : UInt8) (h : [40, 41, 44, 43, 45, 42, 47].contains c = true) : LK false [c] [tkS [c]] := by
  refine ⟨[⟨4, [c], 0, 0⟩], rfl, ?_⟩
  have : c = 40 ∨ c = 41 ∨ c = 44 ∨ c = 43 ∨ c = 45 ∨ c = 42 ∨ c = 47 := by simpa using h
  rcases this with rfl | rfl | rfl | rfl | rfl | rfl | rfl <;> exact LX.sym _ (by decide) (by decide) (by decide) (by decide) (by decide) (by decide) (by decide) (by decide)
theorem LK.name {s : List UInt8} (h : NameB s) : LK true s [tkN s] := ⟨_, rfl, LX.name h⟩
theorem safe_sym (c : UInt8) (s : List UInt8) (h : isWord c = false) (h2 : c.toNat ≠ 61) (rest : List UInt8) : SafeB (c :: s ++ rest) := safe_cons _ h h2

/-! ### digits -/
theorem dec_step (u : Nat) (h : ¬ u < 10) : Lib.decDigits u = Lib.decDigits (u / 10) ++ [UInt8.ofNat (48 + u % 10)] := by rw [Lib.decDigits, dif_neg h]
theorem dec_small (u : Nat) (h : u < 10) : Lib.decDigits u = [UInt8.ofNat (48 + u)] := by rw [Lib.decDigits, dif_pos h]
theorem digit_nat (d : Nat) (h : d < 10) : (UInt8.ofNat (48 + d)).toNat = 48 + d := by rw [UInt8.toNat_ofNat']; omega
theorem dec_all (u : Nat) : (∀ x ∈ Lib.decDigits u, isDigit x = true) ∧ digitsVal (Lib.decDigits u) = u ∧ Lib.decDigits u ≠ [] := by
  induction u using Nat.strongRecOn with
  | ind u ih =>
    have hd : ∀ d, d < 10 → isDigit (UInt8.ofNat (48 + d)) = true := fun d h => by
      unfold isDigit; rw [digit_nat d h]; simp; omega
    by_cases h : u < 10
    · rw [dec_small u h]
      refine ⟨fun x hx => ?_, ?_, by simp⟩
      · rw [List.mem_singleton.1 hx]; exact hd u h
      · show (0 : Int) * 10 + (((UInt8.ofNat (48 + u)).toNat : Int) - 48) = u
        rw [digit_nat u h]; omega
    · rw [dec_step u h]
      obtain ⟨i1, i2, i3⟩ := ih (u / 10) (by omega)
      refine ⟨fun x hx => ?_, ?_, by simp⟩
      · rcases List.mem_append.1 hx with hx | hx
        · exact i1 x hx
        · rw [List.mem_singleton.1 hx]; exact hd _ (by omega)
      · unfold digitsVal at i2 ⊢
        rw [List.foldl_append, i2]
        show ((u / 10 : Nat) : Int) * 10 + (((UInt8.ofNat (48 + u % 10)).toNat : Int) - 48) = u
        rw [digit_nat _ (by omega)]; omega
theorem dec_len : ∀ (k u : Nat), u < 10 ^ (k + 1) → (Lib.decDigits u).length ≤ k + 1
  | 0, u, h => by rw [dec_small u (by simpa using h)]; exact Nat.le_refl _
  | k + 1, u, h => by
    by_cases hu : u < 10
    · rw [dec_small u hu]; simp
    · rw [dec_step u hu, List.length_append, List.length_singleton]
      have := dec_len k (u / 10) (by rw [Nat.pow_succ] at h; omega)
      omega
theorem dec_len7 (n : Int) (h : 0 ≤ n) (h2 : n ≤ 1000000) : (Lib.decDigits n.toNat).length ≤ 7 := dec_len 6 _ (by omega)

/-! ### a tree's text -/
theorem ident_name {s : List UInt8} (h : identL s = true) : NameB s := by
  unfold identL identOk at h
  split at h
  · rename_i t hl
    simp only [Bool.and_eq_true, beq_iff_eq] at h
    exact lex_name hl h.1.1 h.1.2
  · cases h
theorem LK.par {s : List UInt8} {ks : List Tok} (c : Bool) (h : LK true s ks) : LK true (parB c s) (parK c ks) := by
  cases c with
  | false => exact h
  | true => exact LK.cons (LK.sym 40 (by decide)) (LK.app h (LK.sym 41 (by decide)).weak (fun _ rest _ => safe_sym 41 [] (by decide) (by decide) rest))
theorem LK.infix {op : Int} (h : (op = 10 ∨ op = 11) ∨ (op = 3 ∨ op = 4) ∨ (op = 5 ∨ op = 6)) {s : List UInt8} {ks : List Tok} (hs : LK true s ks) : LK true (32 :: (nameM infixL op ++ 32 :: s)) (tkS (nameM infixL op) :: ks) := by
  refine LK.blank ?_
  have h1 := LK.blank hs
  rcases h with (rfl | rfl) | (rfl | rfl) | (rfl | rfl)
  · exact LK.app (s := [60]) (ks := [tkS [60]]) ⟨[⟨4, [60], 0, 0⟩], rfl, LX.less⟩ h1 (fun _ rest _ => safe_sym 32 s (by decide) (by decide) rest)
  · exact LK.app (s := [61, 61]) (ks := [tkS [61, 61]]) ⟨[⟨4, [61, 61], 0, 0⟩], rfl, LX.equal⟩ h1 (fun h => by cases h)
  · exact LK.cons (LK.sym 43 (by decide)) h1
  · exact LK.cons (LK.sym 45 (by decide)) h1
  · exact LK.cons (LK.sym 42 (by decide)) h1
  · exact LK.cons (LK.sym 47 (by decide)) h1
theorem fun_name (op : Int) (h : op = 7 ∨ op = 8 ∨ op = 9) : NameB (nameM functionsL op) := by
  rcases h with rfl | rfl | rfl
  · exact ⟨109, [105, 110], rfl, by decide, by decide, by decide⟩
  · exact ⟨109, [97, 120], rfl, by decide, by decide, by decide⟩
  · exact ⟨105, [102], rfl, by decide, by decide, by decide⟩
theorem LK.args {s s2 : List UInt8} {ks ks2 : List Tok} (h : LK true s ks) (h2 : LK true s2 ks2) : LK true (s ++ 44 :: 32 :: s2) (ks ++ tkS [44] :: ks2) :=
  LK.app h (LK.cons (LK.sym 44 (by decide)) (LK.blank h2)) (fun _ rest _ => safe_sym 44 (32 :: s2) (by decide) (by decide) rest)
theorem LK.last {s : List UInt8} {ks : List Tok} (h : LK true s ks) : LK true (s ++ [41]) (ks ++ [tkS [41]]) :=
  LK.app h (LK.sym 41 (by decide)).weak (fun _ rest _ => safe_sym 41 [] (by decide) (by decide) rest)
theorem LK.fn {op : Int} (h : op = 7 ∨ op = 8 ∨ op = 9) {s : List UInt8} {ks : List Tok} (hs : LK true s ks) : LK true (nameM functionsL op ++ 40 :: s) (tkN (nameM functionsL op) :: tkS [40] :: ks) :=
  LK.app (LK.name (fun_name op h)) (LK.cons (LK.sym 40 (by decide)) hs) (fun _ rest _ => safe_sym 40 s (by decide) (by decide) rest)
theorem body_lex : ∀ t : T, t.ok → LK true t.body t.toks
  | .num n, h => by
    obtain ⟨h1, h2, h3⟩ := dec_all n.toNat
    have := LX.num h3 h1 (by have := dec_len7 n h.1 h.2; omega)
    rw [h2, show ((n.toNat : Nat) : Int) = n by have := h.1; omega] at this
    exact ⟨_, rfl, this⟩
  | .name s, h => LK.name (ident_name h)
  | .neg a, h => LK.cons (LK.sym 45 (by decide)) (LK.par _ (body_lex a h))
  | .bin op a b, h => by
    have ha := body_lex a h.2.1
    have hb := body_lex b h.2.2
    simp only [T.body, T.toks]
    have key : ∀ hop : (op = 10 ∨ op = 11) ∨ (op = 3 ∨ op = 4) ∨ (op = 5 ∨ op = 6), LK true (parB (weaker a (leftZ op)) a.body ++ 32 :: (nameM infixL op ++ 32 :: parB (weaker b (strengthZ op + 1)) b.body)) (parK (weaker a (leftZ op)) a.toks ++ tkS (nameM infixL op) :: parK (weaker b (strengthZ op + 1)) b.toks) := fun hop =>
      LK.app (LK.par _ ha) (LK.infix hop (LK.par _ hb)) (fun _ rest _ => safe_sym 32 _ (by decide) (by decide) rest)
    rcases strength_cases op h.1 with h1 | h1 | h1 | h1
    · rw [if_neg (by rcases h1 with rfl | rfl <;> decide), if_neg (by rcases h1 with rfl | rfl <;> decide)]
      exact key (.inl h1)
    · rw [if_neg (by rcases h1 with rfl | rfl <;> decide), if_neg (by rcases h1 with rfl | rfl <;> decide)]
      exact key (.inr (.inl h1))
    · rw [if_neg (by rcases h1 with rfl | rfl <;> decide), if_neg (by rcases h1 with rfl | rfl <;> decide)]
      exact key (.inr (.inr h1))
    · rw [if_pos (by rcases h1 with rfl | rfl <;> decide), if_pos (by rcases h1 with rfl | rfl <;> decide)]
      exact LK.fn (by omega) (LK.args ha (LK.last hb))
  | .ite a b c, h => LK.fn (.inr (.inr rfl)) (LK.args (body_lex a h.1) (LK.args (body_lex b h.2.1) (LK.last (body_lex c h.2.2))))
theorem parB_len (c : Bool) (s : List UInt8) : (parB c s).length ≤ s.length + 2 := by
  cases c
  · exact Nat.le_add_right _ _
  · show (40 :: (s ++ [41])).length ≤ _
    simp
theorem parK_len (c : Bool) (s : List Tok) : (parK c s).length ≤ s.length + 2 := by
  cases c
  · exact Nat.le_add_right _ _
  · show (tkS [40] :: (s ++ [tkS [41]])).length ≤ _
    simp
theorem body_len : ∀ t : T, t.ok → t.body.length ≤ 24 * t.size ∧ t.toks.length ≤ 12 * t.size
  | .num n, h => by have := dec_len7 n h.1 h.2; simp only [T.body, T.toks, T.size, List.length_singleton]; omega
  | .name s, h => by
    obtain ⟨c, r, e, _, _, hl⟩ := ident_name h
    simp only [T.body, T.toks, T.size, List.length_singleton]; omega
  | .neg a, h => by
    have h1 := body_len a h
    have h2 := parB_len (weaker a 4) a.body
    have h3 := parK_len (weaker a 4) a.toks
    simp only [T.body, T.toks, T.size, List.length_cons]; omega
  | .bin op a b, h => by
    have ha := body_len a h.2.1
    have hb := body_len b h.2.2
    have h2 := parB_len (weaker a (leftZ op)) a.body
    have h3 := parK_len (weaker a (leftZ op)) a.toks
    have h4 := parB_len (weaker b (strengthZ op + 1)) b.body
    have h5 := parK_len (weaker b (strengthZ op + 1)) b.toks
    have h6 := infix_len op
    have h7 := functions_len op
    simp only [T.body, T.toks, T.size]
    split
    · simp only [List.length_append, List.length_cons, List.length_nil]; omega
    · simp only [List.length_append, List.length_cons, List.length_nil]; omega
  | .ite a b c, h => by
    have ha := body_len a h.1
    have hb := body_len b h.2.1
    have hc := body_len c h.2.2
    have h7 := functions_len 9
    simp only [T.body, T.toks, T.size, List.length_append, List.length_cons, List.length_nil]; omega
/-- The canonical text of an expression is parsed as that expression. -/
theorem parse_body (t : T) (h : GoodT t) : parseX t.body = (t.flat 0, 0, 0) := by
  obtain ⟨ho, hd, hs⟩ := h
  obtain ⟨ts, he, hx⟩ := body_lex t ho
  obtain ⟨l1, l2⟩ := body_len t ho
  have hlen : ts.length = t.toks.length := by rw [← he]; unfold ts0; rw [List.length_map]
  have hl := hx.lex (by omega) (by omega)
  have hr := (rd_all t ho).one [] [] (fun t r e => by cases e)
  rw [List.append_nil, List.nil_append] at hr
  have hr0 : Ev (.lvl 1) t.toks [] (.ok [] (t.flat 0) ((([] : List S53).length + t.size : Nat) - 1)) := hr
  have hp := parse_ev hl (by rw [he]; exact hr0)
  rw [hp, if_pos ((valid_iff _).2 ⟨t, ⟨ho, hd, hs⟩, rfl⟩)]
end Go.Proofs.YtenecpmonodjaaaDoor.PAll
