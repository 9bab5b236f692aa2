/- The plain words of the lexer, the parser and the values of expressions, in Lean alone: no Go and no program in sight. -/
import Derived.Lib.Bytealg
import Derived.Laws.RangeAny
import Derived.Lib.IndexAny
import Derived.Lib.IndexBytes
namespace Go.Proofs.YtenecpmonodjaaaGreatDoor.Obs
set_option linter.unusedVariables false
set_option linter.unusedSimpArgs false

/-! ### tokens -/
def isLetter (c : UInt8) : Bool := (decide (97 ≤ c.toNat) && decide (c.toNat ≤ 122)) || (decide (65 ≤ c.toNat) && decide (c.toNat ≤ 90))
def isDigit (c : UInt8) : Bool := decide (48 ≤ c.toNat) && decide (c.toNat ≤ 57)
def isBlank (c : UInt8) : Bool := c.toNat == 32 || c.toNat == 9 || c.toNat == 10
def isAngle (c : UInt8) : Bool := c.toNat == 60 || c.toNat == 62 || c.toNat == 61
def isSym (c : UInt8) : Bool := [59, 44, 46, 58, 40, 41, 91, 93, 123, 125, 43, 45, 42, 47].contains c.toNat
/-- The class of a byte. -/
def cls (c : UInt8) : Int :=
  if isLetter c then 3 else if isDigit c then 4 else if c.toNat = 95 then 5 else if isBlank c then 1 else if c.toNat = 35 then 2
  else if c.toNat = 34 then 6 else if c.toNat = 33 then 7 else if isAngle c then 8 else if isSym c then 9 else 0
def isWord (c : UInt8) : Bool := isLetter c || isDigit c || c.toNat == 95

structure Tok where
  k : Int
  t : List UInt8
  n : Int
  a : Nat

/-- How many bytes of gaps a text begins with (true: inside a comment). -/
def gapL : Bool → List UInt8 → Nat
  | _, [] => 0
  | true, c :: r => if c.toNat = 10 then 1 + gapL false r else 1 + gapL true r
  | false, c :: r => if isBlank c then 1 + gapL false r else if c.toNat = 35 then 1 + gapL true r else 0

def digitsVal (l : List UInt8) : Int := l.foldl (fun n c => n * 10 + ((c.toNat : Int) - 48)) 0

inductive TokR where
  | bad (e : Int)
  | ok (k : Int) (t : List UInt8) (n : Int) (w : Nat)

/-- The token that a text begins with. -/
def tokL : List UInt8 → TokR
  | [] => .bad 3
  | c :: r =>
    if isLetter c then
      (if (c :: r.takeWhile isWord).length > 24 then .bad 2 else .ok 1 (c :: r.takeWhile isWord) 0 (c :: r.takeWhile isWord).length)
    else if isDigit c then
      (if (c :: r.takeWhile isDigit).length > 13 || ((r.dropWhile isDigit).head?.any fun d => isLetter d || d.toNat == 95) then .bad 4
       else .ok 2 (c :: r.takeWhile isDigit) (digitsVal (c :: r.takeWhile isDigit)) (c :: r.takeWhile isDigit).length)
    else if c.toNat = 34 then
      (match r.dropWhile (fun d => !(d.toNat == 34 || d.toNat == 10)) with
       | [] => .bad 6
       | d :: _ => if d.toNat = 10 then .bad 6 else if (r.takeWhile (fun d => !(d.toNat == 34 || d.toNat == 10))).length > 400 then .bad 2
         else .ok 3 (r.takeWhile (fun d => !(d.toNat == 34 || d.toNat == 10))) 0 ((r.takeWhile (fun d => !(d.toNat == 34 || d.toNat == 10))).length + 2))
    else if c.toNat = 33 || isAngle c then
      (if r.head?.any (fun d => d.toNat == 61) then .ok 4 (c :: r.take 1) 0 2 else if c.toNat = 33 then .bad 3 else .ok 4 [c] 0 1)
    else if isSym c then .ok 4 [c] 0 1 else .bad 3

inductive LexR where
  | bad (e : Int) (a : Int)
  | ok (l : List Tok)

def LexR.cons (t : Tok) : LexR → LexR
  | .bad e a => .bad e a
  | .ok l => .ok (t :: l)
def LexR.app (ts : List Tok) : LexR → LexR
  | .bad e a => .bad e a
  | .ok l => .ok (ts ++ l)

/-- The tokens of a text that begins with a token (or is empty), from the offset a on, cnt tokens being there already. -/
def lexAt : Nat → List UInt8 → Nat → Nat → LexR
  | 0, _, _, _ => .bad 0 0
  | f + 1, l, a, cnt =>
    if l.isEmpty then .ok [] else
    match tokL l with
    | .bad e => .bad e a
    | .ok k t n w => if cnt = 5000 then .bad 2 a else
      (lexAt f ((l.drop w).drop (gapL false (l.drop w))) (a + w + gapL false (l.drop w)) (cnt + 1)).cons ⟨k, t, n, a⟩

def lex (s : List UInt8) : LexR := if s.length > 20000 then .bad 2 (-1) else lexAt (s.length + 1) (s.drop (gapL false s)) (gapL false s) 0

end Go.Proofs.YtenecpmonodjaaaGreatDoor.Obs

/- Gaps, told as the lexer's own loop goes. -/
namespace Go.Proofs.YtenecpmonodjaaaGreatDoor.Obs
set_option linter.unusedVariables false
set_option linter.unusedSimpArgs false

theorem gapL_blank (l : List UInt8) : gapL false l = (l.takeWhile isBlank).length + gapL false (l.dropWhile isBlank) := by
  induction l with
  | nil => simp [gapL]
  | cons c r ih =>
    by_cases h : isBlank c = true
    · simp only [gapL, h, if_true, List.takeWhile_cons, List.dropWhile_cons, List.length_cons]; omega
    · simp [gapL, h, List.takeWhile_cons, List.dropWhile_cons]
theorem blank10 (c : UInt8) (h : c.toNat = 10) : isBlank c = true := by simp [isBlank, h]
theorem gapL_true (l : List UInt8) : (Lib.indexByte l 10 = -1 ∧ gapL true l = l.length) ∨ ∃ k : Nat, Lib.indexByte l 10 = (k : Int) ∧ k < l.length ∧ gapL true l = k + gapL false (l.drop k) := by
  induction l with
  | nil => exact .inl ⟨rfl, rfl⟩
  | cons c r ih =>
    by_cases h : c.toNat = 10
    · refine .inr ⟨0, ?_, by simp, ?_⟩
      · have : c = 10 := UInt8.toNat_inj.1 h
        simp [Lib.indexByte, this]
      · simp [gapL, h, blank10 c h]
    · have hne : (c == 10) = false := by
        simp only [beq_eq_false_iff_ne, ne_eq]; intro e; exact h (by rw [e]; rfl)
      rcases ih with ⟨h1, h2⟩ | ⟨k, h1, h2, h3⟩
      · refine .inl ⟨by simp [Lib.indexByte, hne, h1], by simp only [gapL, h, if_false, h2, List.length_cons]; omega⟩
      · refine .inr ⟨k + 1, ?_, by simp only [List.length_cons]; omega, ?_⟩
        · have hk : (Lib.indexByte r 10 == -1) = false := by rw [h1]; simp only [beq_eq_false_iff_ne]; omega
          simp [Lib.indexByte, hne, hk]
          rw [h1]
        · simp [gapL, h, h3]; try omega
theorem gapL_hash (c : UInt8) (r : List UInt8) (h : c.toNat = 35) : gapL false (c :: r) = gapL true (c :: r) := by
  have hb : isBlank c = false := by simp [isBlank, h]
  simp [gapL, h, hb]
theorem gapL_none (c : UInt8) (r : List UInt8) (h : c.toNat ≠ 35) (hb : isBlank c = false) : gapL false (c :: r) = 0 := by simp [gapL, h, hb]
theorem gapL_le (l : List UInt8) : ∀ b, gapL b l ≤ l.length := by
  induction l with
  | nil => intro b; cases b <;> simp [gapL]
  | cons c r ih =>
    intro b
    have h1 := ih true
    have h2 := ih false
    cases b <;> simp only [gapL, List.length_cons] <;> (repeat' split) <;> omega
theorem cls_hash (c : UInt8) : (cls c = 2) ↔ c.toNat = 35 := by
  unfold cls
  constructor
  · intro h; (repeat' split at h) <;> first | assumption | (simp at h)
  · intro h
    have h1 : isLetter c = false := by simp [isLetter, h]
    have h2 : isDigit c = false := by simp [isDigit, h]
    have h3 : isBlank c = false := by simp [isBlank, h]
    simp [h, h1, h2, h3]
theorem cls_blank (c : UInt8) : [(1 : Int)].contains (cls c) = isBlank c := by
  cases hb : isBlank c with
  | true =>
    have : cls c = 1 := by
      have h0 : c.toNat = 32 ∨ c.toNat = 9 ∨ c.toNat = 10 := by simpa [isBlank, or_assoc] using hb
      have h1 : isLetter c = false := by simp [isLetter]; omega
      have h2 : isDigit c = false := by simp [isDigit]; omega
      have h3 : ¬ c.toNat = 95 := by omega
      simp [cls, h1, h2, h3, hb]
    simp [this]
  | false =>
    have : cls c ≠ 1 := by
      unfold cls
      (repeat' split) <;> simp_all
    simpa using this
end Go.Proofs.YtenecpmonodjaaaGreatDoor.Obs

/- Code points and bytes: what a range over a string skips holds no ASCII byte; what string(r) writes for a code point that is no ASCII one. -/
namespace Go.Proofs.YtenecpmonodjaaaGreatDoor.Obs
set_option linter.unusedVariables false
set_option linter.unusedSimpArgs false

theorem get_data (s : ByteArray) (i : Nat) (h : i < s.size) : s.data.toList[i]? = some (s.get! i) := by
  have h1 := get_at s i h
  rw [Nat.add_zero] at h1
  rw [Lib.data_getElem? s i h, h1]

/-- The bytes of a code point that begins with no ASCII byte are no ASCII bytes. -/
theorem decode_cover (s : ByteArray) (pos : Nat) (h : pos < s.size) (ha : 128 ≤ (s.get! pos).toNat) :
    pos + (Utf8.decode s pos).2 ≤ s.size ∧ ∀ k, k < (Utf8.decode s pos).2 → 128 ≤ (s.get! (pos + k)).toNat := by
  have hn : ¬ (s.get! (pos + 0)).toNat < 128 := by rw [Nat.add_zero]; omega
  have h0 : 128 ≤ (s.get! (pos + 0)).toNat := by omega
  unfold Utf8.decode
  simp only [hn, if_false]
  have one : ∀ k, k < 1 → 128 ≤ (s.get! (pos + k)).toNat := fun k hk => by
    obtain rfl : k = 0 := by omega
    exact h0
  have cont : ∀ j, (decide (pos + j < s.size) && (s.get! (pos + j)).toNat / 64 == 2) = true → pos + j < s.size ∧ 128 ≤ (s.get! (pos + j)).toNat := fun j hj => by
    rw [Bool.and_eq_true] at hj
    have h1 := of_decide_eq_true hj.1
    have h2 := beq_iff_eq.1 hj.2
    exact ⟨h1, by omega⟩
  split
  · rename_i c
    rw [Bool.and_eq_true] at c
    have c1 := cont 1 c.2
    split
    · refine ⟨by show pos + 2 ≤ _; omega, fun k hk => ?_⟩
      have hk' : k < 2 := hk
      rcases (show k = 0 ∨ k = 1 by omega) with rfl | rfl
      · exact h0
      · exact c1.2
    · exact ⟨by show pos + 1 ≤ _; omega, one⟩
  · split
    · rename_i c
      rw [Bool.and_eq_true, Bool.and_eq_true] at c
      have c1 := cont 1 c.1.2
      have c2 := cont 2 c.2
      split
      · refine ⟨by show pos + 3 ≤ _; omega, fun k hk => ?_⟩
        have hk' : k < 3 := hk
        rcases (show k = 0 ∨ k = 1 ∨ k = 2 by omega) with rfl | rfl | rfl
        · exact h0
        · exact c1.2
        · exact c2.2
      · exact ⟨by show pos + 1 ≤ _; omega, one⟩
    · split
      · rename_i c
        rw [Bool.and_eq_true, Bool.and_eq_true, Bool.and_eq_true] at c
        have c1 := cont 1 c.1.1.2
        have c2 := cont 2 c.1.2
        have c3 := cont 3 c.2
        split
        · refine ⟨by show pos + 4 ≤ _; omega, fun k hk => ?_⟩
          have hk' : k < 4 := hk
          rcases (show k = 0 ∨ k = 1 ∨ k = 2 ∨ k = 3 by omega) with rfl | rfl | rfl | rfl
          · exact h0
          · exact c1.2
          · exact c2.2
          · exact c3.2
        · exact ⟨by show pos + 1 ≤ _; omega, one⟩
      · exact ⟨by show pos + 1 ≤ _; omega, one⟩
end Go.Proofs.YtenecpmonodjaaaGreatDoor.Obs
