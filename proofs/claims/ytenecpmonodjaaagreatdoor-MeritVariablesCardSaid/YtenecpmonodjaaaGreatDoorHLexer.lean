/- (scanner).next, walked by hand, class by class. -/
import Derived.Test.YtenecpmonodjaaaGreatDoorHLex
import Derived.Great.BuildSlice
namespace Go.Proofs.YtenecpmonodjaaaGreatDoor.PAll
open Go.RowKit Go.Proofs.YtenecpmonodjaaaGreatDoorW.PrintWords Go.Proofs.YtenecpmonodjaaaGreatDoorW.PrintLast Go.Proofs.YtenecpmonodjaaaGreatDoorW.PrintMore
open Go.Proofs.YtenecpmonodjaaaGreatDoor.Obs
set_option linter.unusedVariables false
set_option linter.unusedSimpArgs false

/-- What next returns. -/
def nextV (i : Nat) : TokR → Value
  | .bad e => .tuple #[.agg #[.int .i64 0, .string ⟨#[]⟩, .int .i64 0, .int .i64 0], .int .i64 0, .int .i64 e]
  | .ok k t n m => .tuple #[.agg #[.int .i64 k, .string ⟨t.toArray⟩, .int .i64 n, .int .i64 i], .int .i64 ((i + m : Nat) : Int), .int .i64 0]
def NextP (s : ByteArray) (i : Nat) (w : World) (e : Ending) (w' : World) : Prop := e = .returned (nextV i (tokL (s.data.toList.drop i))) ∧ Below w.heap.size w w'

theorem ba_eq (s : ByteArray) (l : List UInt8) (h : s.data.toList = l) : s = ⟨l.toArray⟩ := by
  obtain ⟨⟨x⟩⟩ := s; simp at h; rw [h]
theorem extract_while (s : ByteArray) (p : UInt8 → Bool) (i : Nat) : s.extract i (whileL s p i) = ⟨((s.data.toList.drop i).takeWhile p).toArray⟩ := by
  refine ba_eq _ _ ?_
  rw [Lib.extract_data]
  unfold whileL
  rw [Nat.add_sub_cancel_left]
  exact (List.prefix_iff_eq_take.1 (List.takeWhile_prefix p)).symm
theorem tok_size : (Tryz.prog.info? 86).map (·.size) = some 4 := by kernel_rfl
theorem tok_size' (x0 x1 x2 x3 : Value) : (Tryz.prog.info? 86).map (·.size) = some (#[x0, x1, x2, x3] : Array Value).size := tok_size
theorem tok_one (a n m : Int) (t : ByteArray) : (#[.int .i64 a, .string t, .int .i64 n, .int .i64 m] : Array Value).all (·.oneCell') = true := by simp [Value.oneCell']
theorem next_fin {R : Ending → World → Prop} {a : Act} {W : World} {g : Nat} {x0 x1 x2 x3 : Value} {old : Array Value} (hd : a.defers = []) (hp : a.tmps.getD 4 undef = .pointer (some ⟨g, 0, none⟩))
    (hg : W.heap[g]? = some (.cells old 86 (0, 0)))
    (hR : R (.returned (.tuple #[.agg #[x0, x1, x2, x3], a.tmps.getD 5 undef, a.tmps.getD 6 undef])) (W.setRow g #[x0, x1, x2, x3])) : bodyPost Tryz.prog Tryz.f75 R .ret a (W.setRow g #[x0, x1, x2, x3]) :=
  bodyPost_ret (results_cell_tt rfl _ _ g 86 _ (0, 0) _ hp (setRow_heap _ _ _ _ _ _ hg) Tryz.underlying86 rfl tok_size) hd hR
theorem cls_word (c : UInt8) : [(3 : Int), 4, 5].contains (cls c) = isWord c := by
  unfold cls isWord
  cases h1 : isLetter c <;> cases h2 : isDigit c <;> by_cases h3 : c.toNat = 95 <;> simp [h3] <;> (repeat' split) <;> simp [h3]
theorem cls_digit (c : UInt8) : [(4 : Int)].contains (cls c) = isDigit c := by
  unfold cls
  cases h1 : isLetter c <;> cases h2 : isDigit c
  · simp; (repeat' split) <;> simp
  · simp
  · simp
  · exfalso
    simp [isLetter, isDigit] at h1 h2
    omega

set_option maxHeartbeats 2000000 in
set_option maxRecDepth 100000 in
theorem next_letter (s : ByteArray) (g i : Nat) (w : World) (hs : s.size ≤ 20000) (hS : Scan w g s) (hi : i < s.size) (hc : isLetter s[i] = true) :
    Calls Tryz.prog 75 #[.pointer (some ⟨g, 0, none⟩), .int .i64 i] w (NextP s i w) := by
  have hcl : clsAt s i = 3 := by rw [clsAt_lt s i hi]; simp [cls, hc]
  have hle := whileL_le s isWord i (by omega)
  have HT : Aside0 (tokL (s.data.toList.drop i) = if whileL s isWord i - i > 24 then .bad 2 else .ok 1 ((s.data.toList.drop i).takeWhile isWord) 0 (whileL s isWord i - i)) := by
    refine ⟨?_⟩
    have hw : isWord s[i] = true := by simp [isWord, hc]
    unfold whileL
    rw [Nat.add_sub_cancel_left, drop_cons s i hi, List.takeWhile_cons, if_pos hw]
    simp only [tokL, hc, if_true]
  have HS := Lib.hid hS
  have HC := Lib.hid hcl
  clear hS hcl hc
  go_enter Tryz.func75, Tryz.ntmps75
  go_wp2_with fail
  generalize hW : w.alloc _ = wa
  have hb0 : Below w.heap.size w wa := by rw [← hW]; exact below_alloc (Below.refl _ _) _
  have hr0 : wa.heap[w.heap.size]? = some (.cells #[.int .i64 0, .string ⟨#[]⟩, .int .i64 0, .int .i64 0] 86 (0, 0)) := by rw [← hW]; exact blk_new w _
  clear hW
  refine (at_calls s g i wa (by omega) (HS.out.below hb0)).mono ?_
  rintro e w1 ⟨rfl, n, rfl⟩
  rw [HC.out]
  go_wp2_with fail
  generalize hW : (wa.drewN n).alloc _ = wb
  have hb1 : Below w.heap.size w wb := by rw [← hW]; exact below_alloc (pw_below_drewN hb0 _) _
  have hr1 : wb.heap[w.heap.size]? = some (.cells #[.int .i64 0, .string ⟨#[]⟩, .int .i64 0, .int .i64 0] 86 (0, 0)) := by rw [← hW]; exact blk_alloc (blk_drewN hr0 _) _
  have hlit : Kd.C (Kd.int .i64) wb (some ⟨wa.heap.size, 0, none⟩) 3 [3, 4, 5] := by rw [← hW]; exact lit_ints (wa.drewN n) [3, 4, 5] 3 (by decide)
  clear hW hr0 hb0
  refine (while_calls s g i [3, 4, 5] isWord _ 3 wb (by omega) (HS.out.below hb1) hlit (by decide) cls_word (by omega)).mono ?_
  rintro e w1 ⟨rfl, n2, rfl⟩
  have c0 := (HS.out.below hb1).text
  by_cases h24 : whileL s isWord i - i > 24
  · go_wp2_with (refine wpList_store_row rfl 86 _ _ rfl w.heap.size _ rfl rfl _ _ (blk_drewN hr1 n2) (tok_size' _ _ _ _) rfl (tok_one _ _ _ _) ?_)
    refine next_fin ?_ ?_ (blk_drewN hr1 n2) ?_
    · rfl
    · rfl
    refine ⟨?_, below_setRow (pw_below_drewN hb1 n2) (Nat.le_refl _) _⟩
    rw [HT.out, if_pos h24]
    rfl
  · go_wp2_with (refine wpList_store_row rfl 86 _ _ rfl w.heap.size _ rfl rfl _ _ (blk_drewN hr1 n2) (tok_size' _ _ _ _) rfl (tok_one _ _ _ _) ?_)
    refine next_fin ?_ ?_ (blk_drewN hr1 n2) ?_
    · rfl
    · rfl
    refine ⟨?_, below_setRow (pw_below_drewN hb1 n2) (Nat.le_refl _) _⟩
    rw [HT.out, if_neg h24]
    rw [extract_while]
    show _ = Ending.returned (.tuple #[_, .int .i64 ((i + (whileL s isWord i - i) : Nat) : Int), _])
    rw [show i + (whileL s isWord i - i) = whileL s isWord i from by omega]
    rfl

/-! ### a number -/
theorem of_takeWhile (p : UInt8 → Bool) (l : List UInt8) (d : UInt8) (h : d ∈ l.takeWhile p) : p d = true := by
  induction l with
  | nil => simp at h
  | cons c r ih =>
    rw [List.takeWhile_cons] at h
    split at h
    · rcases List.mem_cons.1 h with rfl | h
      · assumption
      · exact ih h
    · simp at h
theorem decFrom_digits (l : List UInt8) : ∀ acc : Nat, (∀ c, c ∈ l → isDigit c = true) → Lib.decFrom acc l = some (l.foldl (fun n c => n * 10 + (c.toNat - 48)) acc) := by
  induction l with
  | nil => intro acc _; rfl
  | cons c r ih =>
    intro acc h
    have hc := h c (by simp)
    have hd : Lib.digitVal c = some (c.toNat - 48) := by
      unfold Lib.digitVal
      simp [isDigit] at hc
      rw [if_pos hc]
    simp only [Lib.decFrom, hd, List.foldl_cons]
    exact ih _ (fun c hc => h c (by simp [hc]))
theorem digitsVal_nat (l : List UInt8) (h : ∀ c, c ∈ l → isDigit c = true) : ∀ acc : Nat, l.foldl (fun (n : Int) c => n * 10 + ((c.toNat : Int) - 48)) (acc : Int) = ((l.foldl (fun n c => n * 10 + (c.toNat - 48)) acc : Nat) : Int) := by
  induction l with
  | nil => intro acc; rfl
  | cons c r ih =>
    intro acc
    have hc := h c (by simp)
    simp [isDigit] at hc
    simp only [List.foldl_cons]
    rw [show ((acc : Int) * 10 + ((c.toNat : Int) - 48)) = ((acc * 10 + (c.toNat - 48) : Nat) : Int) from by omega]
    exact ih (fun c hc => h c (by simp [hc])) _
theorem atoi_digits (c : UInt8) (r : List UInt8) (h : ∀ d, d ∈ c :: r → isDigit d = true) : Lib.atoi (c :: r) = some (digitsVal (c :: r)) := by
  have hc := h c (by simp)
  simp [isDigit] at hc
  have h1 : (c == 45) = false := by simp only [beq_eq_false_iff_ne, ne_eq]; rintro rfl; simp at hc
  have h2 : (c == 43) = false := by simp only [beq_eq_false_iff_ne, ne_eq]; rintro rfl; simp at hc
  simp only [Lib.atoi, h1, h2, Bool.false_eq_true, if_false, Lib.decNat, List.isEmpty_cons]
  rw [decFrom_digits _ 0 h]
  exact congrArg some (digitsVal_nat _ h 0).symm
theorem cls_three (c : UInt8) : cls c = 3 ↔ isLetter c = true := by
  unfold cls
  constructor
  · intro h; (repeat' split at h) <;> first | assumption | simp at h
  · intro h; simp [h]
theorem cls_five (c : UInt8) : cls c = 5 ↔ c.toNat = 95 := by
  unfold cls
  constructor
  · intro h; (repeat' split at h) <;> first | assumption | simp at h
  · intro h
    have h1 : isLetter c = false := by simp [isLetter, h]
    have h2 : isDigit c = false := by simp [isDigit, h]
    simp [h, h1, h2]
theorem head_drop (s : ByteArray) (k : Nat) (hk : k ≤ s.size) (p : UInt8 → Bool) : (s.data.toList.drop k).head?.any p = if h : k < s.size then p s[k] else false := by
  split
  · rename_i h; rw [drop_cons s k h]; rfl
  · rw [List.drop_eq_nil_of_le (by rw [data_length]; omega)]; rfl
theorem while_drop (s : ByteArray) (p : UInt8 → Bool) (i : Nat) : s.data.toList.drop (whileL s p i) = (s.data.toList.drop i).dropWhile p := by
  unfold whileL; rw [← List.drop_drop]; exact drop_takeWhile _ _
theorem after_digits (s : ByteArray) (k : Nat) (hk : k ≤ s.size) : ((s.data.toList.drop k).head?.any fun d => isLetter d || d.toNat == 95) = decide (clsAt s k = 3 ∨ clsAt s k = 5) := by
  rw [head_drop s k hk]
  unfold clsAt
  split
  · rename_i h
    rw [Bool.eq_iff_iff]; simp [cls_three, cls_five]
  · simp

set_option maxHeartbeats 4000000 in
set_option maxRecDepth 100000 in
theorem next_digit (s : ByteArray) (g i : Nat) (w : World) (hs : s.size ≤ 20000) (hS : Scan w g s) (hi : i < s.size) (hc : isDigit s[i] = true) :
    Calls Tryz.prog 75 #[.pointer (some ⟨g, 0, none⟩), .int .i64 i] w (NextP s i w) := by
  have hcl0 : isLetter s[i] = false := by simp [isDigit] at hc; simp [isLetter]; omega
  have hcl : clsAt s i = 4 := by rw [clsAt_lt s i hi]; simp [cls, hc, hcl0]
  have hle := whileL_le s isDigit i (by omega)
  have HT : Aside0 (tokL (s.data.toList.drop i) = if whileL s isDigit i - i > 13 ∨ clsAt s (whileL s isDigit i) = 3 ∨ clsAt s (whileL s isDigit i) = 5 then .bad 4 else .ok 2 ((s.data.toList.drop i).takeWhile isDigit) (digitsVal ((s.data.toList.drop i).takeWhile isDigit)) (whileL s isDigit i - i)) := by
    refine ⟨?_⟩
    have h1 := after_digits s (whileL s isDigit i) hle.2
    rw [while_drop, drop_cons s i hi, List.dropWhile_cons, if_pos hc] at h1
    have h2 : whileL s isDigit i - i = (s[i] :: (s.data.toList.drop (i + 1)).takeWhile isDigit).length := by
      unfold whileL
      rw [Nat.add_sub_cancel_left, drop_cons s i hi, List.takeWhile_cons, if_pos hc]
    rw [h2, drop_cons s i hi, List.takeWhile_cons, if_pos hc]
    simp only [tokL, hc, hcl0, if_true, Bool.false_eq_true, if_false, h1]
    simp only [Bool.or_eq_true, decide_eq_true_eq]
  have HA : Aside0 (Lib.atoi (s.extract i (whileL s isDigit i)).data.toList = some (digitsVal ((s.data.toList.drop i).takeWhile isDigit))) := by
    refine ⟨?_⟩
    rw [extract_while, drop_cons s i hi, List.takeWhile_cons, if_pos hc]
    refine atoi_digits _ _ (fun d hd => ?_)
    rcases List.mem_cons.1 hd with rfl | hd
    · exact hc
    · exact of_takeWhile _ _ _ hd
  have hsz : (s.extract i (whileL s isDigit i)).size = whileL s isDigit i - i := by rw [ByteArray.size_extract]; omega
  have HS := Lib.hid hS
  have HC := Lib.hid hcl
  have HZ := Lib.hid hsz
  clear hS hcl hc hcl0 hsz
  go_enter Tryz.func75, Tryz.ntmps75
  go_wp2_with fail
  generalize hW : w.alloc _ = wa
  have hb0 : Below w.heap.size w wa := by rw [← hW]; exact below_alloc (Below.refl _ _) _
  have hr0 : wa.heap[w.heap.size]? = some (.cells #[.int .i64 0, .string ⟨#[]⟩, .int .i64 0, .int .i64 0] 86 (0, 0)) := by rw [← hW]; exact blk_new w _
  clear hW
  refine (at_calls s g i wa (by omega) (HS.out.below hb0)).mono ?_
  rintro e w1 ⟨rfl, n, rfl⟩
  rw [HC.out]
  go_wp2_with fail
  generalize hW : (wa.drewN n).alloc _ = wb
  have hb1 : Below w.heap.size w wb := by rw [← hW]; exact below_alloc (pw_below_drewN hb0 _) _
  have hr1 : wb.heap[w.heap.size]? = some (.cells #[.int .i64 0, .string ⟨#[]⟩, .int .i64 0, .int .i64 0] 86 (0, 0)) := by rw [← hW]; exact blk_alloc (blk_drewN hr0 _) _
  have hlit : Kd.C (Kd.int .i64) wb (some ⟨wa.heap.size, 0, none⟩) 1 [4] := by rw [← hW]; exact lit_ints (wa.drewN n) [4] 3 (by decide)
  clear hW hr0 hb0
  refine (while_calls s g i [4] isDigit _ 1 wb (by omega) (HS.out.below hb1) hlit (by decide) cls_digit (by omega)).mono ?_
  rintro e w1 ⟨rfl, n2, rfl⟩
  have c0 := (HS.out.below hb1).text
  have HX := Lib.hid (extract_while s isDigit i)
  generalize whileL s isDigit i = E at *
  go_wp2_with fail
  refine (at_calls s g E (wb.drewN n2) (by omega) (HS.out.below (pw_below_drewN hb1 n2))).mono ?_
  rintro e w1 ⟨rfl, n3, rfl⟩
  by_cases h13 : E - i > 13
  · go_wp2_with (refine wpList_store_row rfl 86 _ _ rfl w.heap.size _ rfl rfl _ _ (blk_drewN hr1 (n2 + n3)) (tok_size' _ _ _ _) rfl (tok_one _ _ _ _) ?_)
    refine next_fin ?_ ?_ (blk_drewN hr1 (n2 + n3)) ?_
    · rfl
    · rfl
    refine ⟨?_, below_setRow (pw_below_drewN hb1 _) (Nat.le_refl _) _⟩
    rw [HT.out, if_pos (.inl h13)]
    rfl
  · by_cases hA : clsAt s E = 3 ∨ clsAt s E = 5
    · have hA' : ((clsAt s E == 3) = true) ∨ ((clsAt s E == 3) = false ∧ (clsAt s E == 5) = true) := by
        rcases hA with h | h <;> simp [h]
      rcases hA' with h3 | ⟨h3, h5⟩
      all_goals
        go_wp2_with (refine wpList_store_row rfl 86 _ _ rfl w.heap.size _ rfl rfl _ _ (blk_drewN hr1 (n2 + n3)) (tok_size' _ _ _ _) rfl (tok_one _ _ _ _) ?_)
        refine next_fin ?_ ?_ (blk_drewN hr1 (n2 + n3)) ?_
        · rfl
        · rfl
        refine ⟨?_, below_setRow (pw_below_drewN hb1 _) (Nat.le_refl _) _⟩
        rw [HT.out, if_pos (.inr hA)]
        rfl
    · have h3 : (clsAt s E == 3) = false := by simp; exact fun h => hA (.inl h)
      have h5 : (clsAt s E == 5) = false := by simp; exact fun h => hA (.inr h)
      have HN := Lib.hid hA
      clear hA
      go_wp2_with fail
      refine (Tryz.strconv_Atoi _ _ (by rw [HZ.out]; omega) HA.out _).mono ?_
      rintro e w1 ⟨rfl, t, rfl⟩
      generalize hW : Lib.bytesWorld _ _ t = wc
      have hb2 : Below w.heap.size w wc := by rw [← hW]; exact bytes_below (pw_below_drewN hb1 _) hb1.size 5 t
      have hr2 : wc.heap[w.heap.size]? = some (.cells #[.int .i64 0, .string ⟨#[]⟩, .int .i64 0, .int .i64 0] 86 (0, 0)) := by
        rw [← hW]; exact (Lib.bytesWorld_at_old (wb.drewN (n2 + n3)) 5 t _ (blk_lt hr1)).trans hr1
      clear hW c0
      have c0 := (HS.out.below hb2).text
      go_wp2_with (refine wpList_store_row rfl 86 _ _ rfl w.heap.size _ rfl rfl _ _ hr2 (tok_size' _ _ _ _) rfl (tok_one _ _ _ _) ?_)
      refine next_fin ?_ ?_ hr2 ?_
      · rfl
      · rfl
      refine ⟨?_, below_setRow hb2 (Nat.le_refl _) _⟩
      rw [HT.out, if_neg (fun h => h.elim h13 HN.out), HX.out]
      show _ = Ending.returned (.tuple #[_, .int .i64 ((i + (E - i) : Nat) : Int), _])
      rw [show i + (E - i) = E from by omega]
      rfl

/-! ### symbols -/
theorem extract_one (s : ByteArray) (i : Nat) (h : i < s.size) : s.extract i (i + 1) = ⟨#[s[i]]⟩ := by
  refine ba_eq _ [s[i]] ?_
  rw [Lib.extract_data, drop_cons s i h]; simp
theorem slice_i (s : ByteArray) (i j : Nat) (k : Nat) (hk : j = i + k) (h : j ≤ s.size) (wx : World) : (Instr.slice 9 (.string s) (some (.int .i64 (i : Int))) (some (.int .i64 ((i : Int) + (k : Int)))) none).run Tryz.prog wx = .ok (.string (s.extract i j)) wx := by
  have := run_slice_string (P := Tryz.prog) wx 9 s .i64 .i64 (i : Int) ((i : Int) + (k : Int)) Tryz.underlying9 (by omega) (by omega) (by omega)
  rw [this, show ((i : Int) + (k : Int)).toNat = j from by omega, Int.toNat_natCast]
theorem extract_two (s : ByteArray) (i : Nat) (h : i + 1 < s.size) : s.extract i (i + 2) = ⟨#[s[i], s[i + 1]]⟩ := by
  refine ba_eq _ [s[i], s[i + 1]] ?_
  rw [Lib.extract_data, drop_cons s i (by omega), drop_cons s (i + 1) h]; simp

set_option maxHeartbeats 4000000 in
set_option maxRecDepth 100000 in
theorem next_sym (s : ByteArray) (g i : Nat) (w : World) (hs : s.size ≤ 20000) (hS : Scan w g s) (hi : i < s.size) (hc : cls s[i] = 9) :
    Calls Tryz.prog 75 #[.pointer (some ⟨g, 0, none⟩), .int .i64 i] w (NextP s i w) := by
  have hcl : clsAt s i = 9 := by rw [clsAt_lt s i hi]; exact hc
  have HT : Aside0 (tokL (s.data.toList.drop i) = .ok 4 [s[i]] 0 1) := by
    refine ⟨?_⟩
    unfold cls at hc
    rw [drop_cons s i hi]
    simp only [tokL]
    (repeat' split at hc) <;> first | (exfalso; revert hc; decide) | simp_all
  have HX := Lib.hid (extract_one s i hi)
  have hsl := slice_i s i (i + 1) 1 rfl (by omega)
  simp only [Int.natCast_one] at hsl
  have HS := Lib.hid hS
  have HC := Lib.hid hcl
  clear hS hcl hc
  go_enter Tryz.func75, Tryz.ntmps75
  go_wp2_with fail
  generalize hW : w.alloc _ = wa
  have hb0 : Below w.heap.size w wa := by rw [← hW]; exact below_alloc (Below.refl _ _) _
  have hr0 : wa.heap[w.heap.size]? = some (.cells #[.int .i64 0, .string ⟨#[]⟩, .int .i64 0, .int .i64 0] 86 (0, 0)) := by rw [← hW]; exact blk_new w _
  clear hW
  refine (at_calls s g i wa (by omega) (HS.out.below hb0)).mono ?_
  rintro e w1 ⟨rfl, n, rfl⟩
  rw [HC.out]
  have c0 := (HS.out.below hb0).text
  go_wp2_with (refine wpList_store_row rfl 86 _ _ rfl w.heap.size _ rfl rfl _ _ (blk_drewN hr0 n) (tok_size' _ _ _ _) rfl (tok_one _ _ _ _) ?_)
  refine next_fin ?_ ?_ (blk_drewN hr0 n) ?_
  · rfl
  · rfl
  refine ⟨?_, below_setRow (pw_below_drewN hb0 n) (Nat.le_refl _) _⟩
  rw [HT.out]
  show Ending.returned (.tuple #[.agg #[_, .string (s.extract i (i + 1)), _, _], _, _]) = _
  rw [HX.out]
  rfl

set_option maxHeartbeats 4000000 in
set_option maxRecDepth 100000 in
theorem next_other (s : ByteArray) (g i : Nat) (w : World) (hs : s.size ≤ 20000) (hS : Scan w g s) (hi : i < s.size) (hc : cls s[i] = 0 ∨ cls s[i] = 1 ∨ cls s[i] = 2 ∨ cls s[i] = 5) :
    Calls Tryz.prog 75 #[.pointer (some ⟨g, 0, none⟩), .int .i64 i] w (NextP s i w) := by
  have HT : Aside0 (tokL (s.data.toList.drop i) = .bad 3) := by
    refine ⟨?_⟩
    unfold cls at hc
    rw [drop_cons s i hi]
    simp only [tokL]
    (repeat' split at hc) <;> first | (exfalso; revert hc; decide) | (simp_all [isAngle, isSym, isBlank]; done) | (simp_all [isAngle, isSym, isBlank]; rename_i h; rcases h with (h | h) | h <;> simp [h])
  rw [← clsAt_lt s i hi] at hc
  have HS := Lib.hid hS
  clear hS
  rcases hc with hcl | hcl | hcl | hcl
  all_goals
    have HC := Lib.hid hcl
    clear hcl
    go_enter Tryz.func75, Tryz.ntmps75
    go_wp2_with fail
    generalize hW : w.alloc _ = wa
    have hb0 : Below w.heap.size w wa := by rw [← hW]; exact below_alloc (Below.refl _ _) _
    have hr0 : wa.heap[w.heap.size]? = some (.cells #[.int .i64 0, .string ⟨#[]⟩, .int .i64 0, .int .i64 0] 86 (0, 0)) := by rw [← hW]; exact blk_new w _
    clear hW
    refine (at_calls s g i wa (by omega) (HS.out.below hb0)).mono ?_
    rintro e w1 ⟨rfl, n, rfl⟩
    rw [HC.out]
    have c0 := (HS.out.below hb0).text
    go_wp2_with (refine wpList_store_row rfl 86 _ _ rfl w.heap.size _ rfl rfl _ _ (blk_drewN hr0 n) (tok_size' _ _ _ _) rfl (tok_one _ _ _ _) ?_)
    refine next_fin ?_ ?_ (blk_drewN hr0 n) ?_
    · rfl
    · rfl
    refine ⟨?_, below_setRow (pw_below_drewN hb0 n) (Nat.le_refl _) _⟩
    rw [HT.out]
    rfl

/-! ### '!', '<', '>', '=' -/
theorem slice_from (s : ByteArray) (i k : Nat) (h : i + k ≤ s.size) (wx : World) : (Instr.slice 9 (.string s) (some (.int .i64 ((i : Int) + (k : Int)))) none none).run Tryz.prog wx = .ok (.string (s.extract (i + k) s.size)) wx := by
  rw [run_slice_string_from_if (P := Tryz.prog) wx 9 s .i64 ((i : Int) + (k : Int)) Tryz.underlying9, if_pos ⟨by omega, by omega⟩, show ((i : Int) + (k : Int)).toNat = i + k from by omega]
theorem cls_seven (c : UInt8) : cls c = 7 ↔ c.toNat = 33 := by
  unfold cls
  constructor
  · intro h; (repeat' split at h) <;> first | assumption | simp at h
  · intro h
    have h1 : isLetter c = false := by simp [isLetter, h]
    have h2 : isDigit c = false := by simp [isDigit, h]
    have h3 : isBlank c = false := by simp [isBlank, h]
    simp [h, h1, h2, h3]
theorem cls_eight (c : UInt8) : cls c = 8 → isAngle c = true ∧ isLetter c = false ∧ isDigit c = false ∧ c.toNat ≠ 34 ∧ c.toNat ≠ 33 := by
  unfold cls
  intro h; (repeat' split at h) <;> first | (simp_all; done) | simp at h
theorem hasPrefix_eq (s : ByteArray) (i : Nat) (h : i ≤ s.size) : Lib.hasPrefix (s.data.toList.drop i) [61] = (if h : i < s.size then s[i].toNat == 61 else false) := by
  split
  · rename_i h; rw [drop_cons s i h]
    simp only [Lib.hasPrefix, List.isPrefixOf, Bool.and_true]
    rw [Bool.eq_iff_iff]; simp only [beq_iff_eq]
    exact ⟨fun h => by rw [← h]; rfl, fun h => (UInt8.toNat_inj.1 h).symm⟩
  · rw [List.drop_eq_nil_of_le (by rw [data_length]; omega)]; rfl
set_option maxHeartbeats 4000000 in
set_option maxRecDepth 100000 in
theorem next_mark (s : ByteArray) (g i : Nat) (w : World) (hs : s.size ≤ 20000) (hS : Scan w g s) (hi : i < s.size) (hc : cls s[i] = 7 ∨ cls s[i] = 8) :
    Calls Tryz.prog 75 #[.pointer (some ⟨g, 0, none⟩), .int .i64 i] w (NextP s i w) := by
  have HT : Aside0 (tokL (s.data.toList.drop i) = if (s.data.toList.drop (i + 1)).head?.any (fun d => d.toNat == 61) then .ok 4 (s[i] :: (s.data.toList.drop (i + 1)).take 1) 0 2 else if cls s[i] = 7 then .bad 3 else .ok 4 [s[i]] 0 1) := by
    refine ⟨?_⟩
    rw [drop_cons s i hi]
    rcases hc with hc | hc
    · have h33 := (cls_seven _).1 hc
      have h1 : isLetter s[i] = false := by simp [isLetter, h33]
      have h2 : isDigit s[i] = false := by simp [isDigit, h33]
      simp [tokL, h33, h1, h2, hc]
    · obtain ⟨h3, h1, h2, h4, h5⟩ := cls_eight _ hc
      simp [tokL, h1, h2, h3, h4, h5, hc]
  rw [head_drop s (i + 1) (by omega)] at HT
  have hsf := slice_from s i 1 (by omega)
  have hs1 := slice_i s i (i + 1) 1 rfl (by omega)
  have hs2 : i + 1 < s.size → ∀ wx : World, (Instr.slice 9 (.string s) (some (.int .i64 (i : Int))) (some (.int .i64 ((i : Int) + 2))) none).run Tryz.prog wx = .ok (.string (s.extract i (i + 2))) wx := fun h => slice_i s i (i + 2) 2 rfl (by omega)
  have hpx := hasPrefix_eq s (i + 1) (by omega)
  rw [← extract_end] at hpx
  simp only [Int.natCast_one] at hsf hs1
  have HS := Lib.hid hS
  have HPX := Lib.hid hpx
  have HS2 := Lib.hid hs2
  have HX1 := Lib.hid (extract_one s i hi)
  clear hS hpx hs2
  have hcl : clsAt s i = cls s[i] := clsAt_lt s i hi
  have HC := Lib.hid hcl
  clear hcl
  by_cases h61 : ∃ h : i + 1 < s.size, s[i + 1].toNat = 61
  · obtain ⟨h2, h61⟩ := h61
    rw [dif_pos h2] at HT HPX
    have hs2 := HS2.out h2
    have HX2 := Lib.hid (extract_two s i h2)
    have H61 := Lib.hid h61
    have hd1 := drop_cons s (i + 1) h2
    have HD1 := Lib.hid hd1
    clear h61 hd1
    rcases hc with hc | hc
    all_goals
      rw [hc] at HC HT
      clear hc
      go_enter Tryz.func75, Tryz.ntmps75
      go_wp2_with fail
      generalize hW : w.alloc _ = wa
      have hb0 : Below w.heap.size w wa := by rw [← hW]; exact below_alloc (Below.refl _ _) _
      have hr0 : wa.heap[w.heap.size]? = some (.cells #[.int .i64 0, .string ⟨#[]⟩, .int .i64 0, .int .i64 0] 86 (0, 0)) := by rw [← hW]; exact blk_new w _
      clear hW
      refine (at_calls s g i wa (by omega) (HS.out.below hb0)).mono ?_
      rintro e w1 ⟨rfl, n, rfl⟩
      rw [HC.out]
      have c0 := (HS.out.below hb0).text
      go_wp2_with fail
      refine (Tryz.strings_HasPrefix _ _ _).mono ?_
      rintro e w1 ⟨rfl, rfl⟩
      rw [show Lib.hasPrefix _ (⟨#[61]⟩ : ByteArray).data.toList = true from by rw [show (⟨#[61]⟩ : ByteArray).data.toList = [61] from rfl, HPX.out, H61.out]; rfl]
      go_wp2_with (refine wpList_store_row rfl 86 _ _ rfl w.heap.size _ rfl rfl _ _ (blk_drewN hr0 n) (tok_size' _ _ _ _) rfl (tok_one _ _ _ _) ?_)
      refine next_fin ?_ ?_ (blk_drewN hr0 n) ?_
      · rfl
      · rfl
      refine ⟨?_, below_setRow (pw_below_drewN hb0 n) (Nat.le_refl _) _⟩
      rw [HT.out, HD1.out, H61.out]
      show Ending.returned (.tuple #[.agg #[_, .string (s.extract i (i + 2)), _, _], _, _]) = _
      rw [HX2.out]
      rfl
  · have hn : ¬ ((if h : i + 1 < s.size then (s[i + 1].toNat == 61) else false) = true) := by
      split
      · rename_i h; simp; exact fun h2 => h61 ⟨h, h2⟩
      · simp
    have HN := Lib.hid hn
    have hcc := hc
    clear h61 hn
    rcases hc with hc | hc
    all_goals
      rw [hc] at HC HT
      have HCC := Lib.hid hc
      clear hc hcc
      go_enter Tryz.func75, Tryz.ntmps75
      go_wp2_with fail
      generalize hW : w.alloc _ = wa
      have hb0 : Below w.heap.size w wa := by rw [← hW]; exact below_alloc (Below.refl _ _) _
      have hr0 : wa.heap[w.heap.size]? = some (.cells #[.int .i64 0, .string ⟨#[]⟩, .int .i64 0, .int .i64 0] 86 (0, 0)) := by rw [← hW]; exact blk_new w _
      clear hW
      refine (at_calls s g i wa (by omega) (HS.out.below hb0)).mono ?_
      rintro e w1 ⟨rfl, n, rfl⟩
      rw [HC.out]
      have c0 := (HS.out.below hb0).text
      go_wp2_with fail
      refine (Tryz.strings_HasPrefix _ _ _).mono ?_
      rintro e w1 ⟨rfl, rfl⟩
      rw [show Lib.hasPrefix _ (⟨#[61]⟩ : ByteArray).data.toList = false from by rw [show (⟨#[61]⟩ : ByteArray).data.toList = [61] from rfl, HPX.out]; exact Bool.eq_false_iff.2 HN.out]
      go_wp2_with (refine wpList_store_row rfl 86 _ _ rfl w.heap.size _ rfl rfl _ _ (blk_drewN hr0 n) (tok_size' _ _ _ _) rfl (tok_one _ _ _ _) ?_)
      refine next_fin ?_ ?_ (blk_drewN hr0 n) ?_
      · rfl
      · rfl
      refine ⟨?_, below_setRow (pw_below_drewN hb0 n) (Nat.le_refl _) _⟩
      rw [HT.out, if_neg HN.out]
      first
        | rfl
        | (show Ending.returned (.tuple #[.agg #[_, .string (s.extract i (i + 1)), _, _], _, _]) = _
           rw [HX1.out]
           rfl)

/-! ### a string -/
def inStr (d : UInt8) : Bool := !(d.toNat == 34 || d.toNat == 10)
theorem indexAny_split (l : List UInt8) : (Lib.indexAny l [34, 10] = -1 ∧ l.dropWhile inStr = []) ∨ ∃ d r, l.dropWhile inStr = d :: r ∧ Lib.indexAny l [34, 10] = ((l.takeWhile inStr).length : Int) := by
  induction l with
  | nil => exact .inl ⟨rfl, rfl⟩
  | cons c r ih =>
    have hc : [(34 : UInt8), 10].contains c = !inStr c := by
      simp only [inStr, Bool.not_not, List.contains_cons, List.contains_nil, Bool.or_false]
      have e1 : (c == 34) = (c.toNat == 34) := by rw [Bool.eq_iff_iff]; simp only [beq_iff_eq]; exact ⟨fun h => by rw [h]; rfl, fun h => UInt8.toNat_inj.1 h⟩
      have e2 : (c == 10) = (c.toNat == 10) := by rw [Bool.eq_iff_iff]; simp only [beq_iff_eq]; exact ⟨fun h => by rw [h]; rfl, fun h => UInt8.toNat_inj.1 h⟩
      rw [e1, e2]
    cases h : inStr c with
    | true =>
      rw [h] at hc
      rcases ih with ⟨h1, h2⟩ | ⟨d, r', h1, h2⟩
      · exact .inl ⟨by simp only [Lib.indexAny, hc, h1]; rfl, by simp [List.dropWhile_cons, h, h2]⟩
      · refine .inr ⟨d, r', by simp [List.dropWhile_cons, h, h1], ?_⟩
        have hn : (Lib.indexAny r [34, 10] == -1) = false := by rw [h2]; simp only [beq_eq_false_iff_ne]; omega
        simp only [Lib.indexAny, hc, hn, List.takeWhile_cons, h, Bool.not_true, Bool.false_eq_true, if_false, if_true, List.length_cons]
        rw [h2]; omega
    | false =>
      rw [h] at hc
      exact .inr ⟨c, r, by simp [List.dropWhile_cons, h], by simp only [Lib.indexAny, hc, List.takeWhile_cons, h]; rfl⟩
theorem cls_six (c : UInt8) : cls c = 6 ↔ c.toNat = 34 := by
  unfold cls
  constructor
  · intro h; (repeat' split at h) <;> first | assumption | simp at h
  · intro h
    have h1 : isLetter c = false := by simp [isLetter, h]
    have h2 : isDigit c = false := by simp [isDigit, h]
    have h3 : isBlank c = false := by simp [isBlank, h]
    simp [h, h1, h2, h3]

set_option maxHeartbeats 4000000 in
set_option maxRecDepth 100000 in
theorem next_quote (s : ByteArray) (g i : Nat) (w : World) (hs : s.size ≤ 20000) (hS : Scan w g s) (hi : i < s.size) (hc : cls s[i] = 6) :
    Calls Tryz.prog 75 #[.pointer (some ⟨g, 0, none⟩), .int .i64 i] w (NextP s i w) := by
  have h34 := (cls_six _).1 hc
  have hcl : clsAt s i = 6 := by rw [clsAt_lt s i hi]; exact hc
  have HT : Aside0 (tokL (s.data.toList.drop i) = (match (s.data.toList.drop (i + 1)).dropWhile inStr with
       | [] => .bad 6
       | d :: _ => if d.toNat = 10 then .bad 6 else if ((s.data.toList.drop (i + 1)).takeWhile inStr).length > 400 then .bad 2
         else .ok 3 ((s.data.toList.drop (i + 1)).takeWhile inStr) 0 (((s.data.toList.drop (i + 1)).takeWhile inStr).length + 2))) := by
    refine ⟨?_⟩
    have h1 : isLetter s[i] = false := by simp [isLetter, h34]
    have h2 : isDigit s[i] = false := by simp [isDigit, h34]
    rw [drop_cons s i hi]
    simp only [tokL, h1, h2, h34, if_true, Bool.false_eq_true, if_false]
    rfl
  have hsf := slice_from s i 1 (by omega)
  simp only [Int.natCast_one] at hsf
  have HS := Lib.hid hS
  have HC := Lib.hid hcl
  clear hS hcl hc h34
  go_enter Tryz.func75, Tryz.ntmps75
  go_wp2_with fail
  generalize hW : w.alloc _ = wa
  have hb0 : Below w.heap.size w wa := by rw [← hW]; exact below_alloc (Below.refl _ _) _
  have hr0 : wa.heap[w.heap.size]? = some (.cells #[.int .i64 0, .string ⟨#[]⟩, .int .i64 0, .int .i64 0] 86 (0, 0)) := by rw [← hW]; exact blk_new w _
  clear hW
  refine (at_calls s g i wa (by omega) (HS.out.below hb0)).mono ?_
  rintro e w1 ⟨rfl, n, rfl⟩
  rw [HC.out]
  have c0 := (HS.out.below hb0).text
  go_wp2_with fail
  have hrl := extract_end s (i + 1)
  generalize s.extract (i + 1) s.size = r at *
  have hrs : r.size ≤ 20000 := by
    have := congrArg List.length hrl
    rw [data_length, List.length_drop, data_length] at this; omega
  refine (indexAny_calls r _ hrs).mono ?_
  rintro e wb ⟨rfl, hbb⟩
  have hb1 : Below w.heap.size w wb := (pw_below_drewN hb0 n).trans (hbb.mono (hb0.size))
  have hr1 := blk_below (blk_drewN hr0 n) hbb
  rw [← hrl] at HT
  have HR := Lib.hid hrl
  clear hrl hbb hr0 hb0 c0 hsf
  have hsp := indexAny_split r.data.toList
  generalize hT : r.data.toList.takeWhile inStr = T at *
  rcases hsp with ⟨h1, h2⟩ | ⟨d, r', h1, h2⟩
  · rw [h1]
    rw [h2] at HT
    clear h1 h2 hT
    go_wp2_with (refine wpList_store_row rfl 86 _ _ rfl w.heap.size _ rfl rfl _ _ hr1 (tok_size' _ _ _ _) rfl (tok_one _ _ _ _) ?_)
    refine next_fin ?_ ?_ hr1 ?_
    · rfl
    · rfl
    refine ⟨?_, below_setRow hb1 (Nat.le_refl _) _⟩
    rw [HT.out]
    rfl
  · rw [h2]
    rw [h1] at HT
    have hTl : T.length < r.size := by
      have := congrArg List.length (List.takeWhile_append_dropWhile (p := inStr) (l := r.data.toList))
      rw [h1, hT, List.length_append, List.length_cons, data_length] at this; omega
    have hd : r[T.length] = d := by
      have h3 := while_drop r inStr 0
      unfold whileL at h3
      rw [List.drop_zero, hT, h1, Nat.zero_add, drop_cons r _ hTl] at h3
      injection h3
    have hpre : r.extract 0 T.length = ⟨T.toArray⟩ := by
      have := extract_while r inStr 0
      unfold whileL at this
      rwa [List.drop_zero, hT, Nat.zero_add] at this
    clear h1 h2
    by_cases h10 : d.toNat = 10
    · have hb10 : ((r[T.length].toNat : Int) == 10) = true := by rw [hd, h10]; rfl
      have H10 := Lib.hid h10
      clear hT hpre hd h10
      go_wp2_with (refine wpList_store_row rfl 86 _ _ rfl w.heap.size _ rfl rfl _ _ hr1 (tok_size' _ _ _ _) rfl (tok_one _ _ _ _) ?_)
      refine next_fin ?_ ?_ hr1 ?_
      · rfl
      · rfl
      refine ⟨?_, below_setRow hb1 (Nat.le_refl _) _⟩
      rw [HT.out]
      simp only [H10.out, if_true]
      rfl
    · have hb10 : ((r[T.length].toNat : Int) == 10) = false := by rw [hd]; simp only [beq_eq_false_iff_ne]; omega
      have H10 := Lib.hid h10
      have HP := Lib.hid hpre
      clear hT hpre hd h10
      by_cases h400 : T.length > 400
      · go_wp2_with (refine wpList_store_row rfl 86 _ _ rfl w.heap.size _ rfl rfl _ _ hr1 (tok_size' _ _ _ _) rfl (tok_one _ _ _ _) ?_)
        refine next_fin ?_ ?_ hr1 ?_
        · rfl
        · rfl
        refine ⟨?_, below_setRow hb1 (Nat.le_refl _) _⟩
        rw [HT.out]
        simp only [H10.out, if_false, if_pos h400]
        rfl
      · go_wp2_with (refine wpList_store_row rfl 86 _ _ rfl w.heap.size _ rfl rfl _ _ hr1 (tok_size' _ _ _ _) rfl (tok_one _ _ _ _) ?_)
        refine next_fin ?_ ?_ hr1 ?_
        · rfl
        · rfl
        refine ⟨?_, below_setRow hb1 (Nat.le_refl _) _⟩
        rw [HT.out]
        simp only [H10.out, if_false, if_neg h400]
        rw [HP.out]
        show Ending.returned (.tuple #[_, .int .i64 ((i : Int) + (T.length : Int) + 2), _]) = Ending.returned (.tuple #[_, .int .i64 ((i + (T.length + 2) : Nat) : Int), _])
        rw [show ((i + (T.length + 2) : Nat) : Int) = (i : Int) + (T.length : Int) + 2 from by omega]
        rfl

theorem cls_range (c : UInt8) : cls c = 0 ∨ cls c = 1 ∨ cls c = 2 ∨ cls c = 3 ∨ cls c = 4 ∨ cls c = 5 ∨ cls c = 6 ∨ cls c = 7 ∨ cls c = 8 ∨ cls c = 9 := by
  unfold cls
  (repeat' split) <;> simp
theorem cls_four (c : UInt8) : cls c = 4 → isDigit c = true := by
  unfold cls
  intro h; (repeat' split at h) <;> first | assumption | simp at h
theorem next_calls (s : ByteArray) (g i : Nat) (w : World) (hs : s.size ≤ 20000) (hS : Scan w g s) (hi : i < s.size) :
    Calls Tryz.prog 75 #[.pointer (some ⟨g, 0, none⟩), .int .i64 i] w (NextP s i w) := by
  rcases cls_range s[i] with h | h | h | h | h | h | h | h | h | h
  · exact next_other s g i w hs hS hi (.inl h)
  · exact next_other s g i w hs hS hi (.inr (.inl h))
  · exact next_other s g i w hs hS hi (.inr (.inr (.inl h)))
  · exact next_letter s g i w hs hS hi ((cls_three _).1 h)
  · exact next_digit s g i w hs hS hi (cls_four _ h)
  · exact next_other s g i w hs hS hi (.inr (.inr (.inr h)))
  · exact next_quote s g i w hs hS hi h
  · exact next_mark s g i w hs hS hi (.inl h)
  · exact next_mark s g i w hs hS hi (.inr h)
  · exact next_sym s g i w hs hS hi h
end Go.Proofs.YtenecpmonodjaaaGreatDoor.PAll

/- lexer.Lex, walked by hand. -/
namespace Go.Proofs.YtenecpmonodjaaaGreatDoor.PAll
open Go.RowKit Go.Proofs.YtenecpmonodjaaaGreatDoorW.PrintWords Go.Proofs.YtenecpmonodjaaaGreatDoorW.PrintLast Go.Proofs.YtenecpmonodjaaaGreatDoorW.PrintMore
open Go.Proofs.YtenecpmonodjaaaGreatDoor.Obs
set_option linter.unusedVariables false
set_option linter.unusedSimpArgs false

/-- A token as the program has it. -/
def tokS (t : Tok) : S86 := ⟨t.k, ⟨t.t.toArray⟩, t.n, t.a⟩
def lexR : LexR → List S86 × Int × Int
  | .bad e a => ([], e, a)
  | .ok l => (l.map tokS, 0, 0)
def lexer_Lex.f (a0 : ByteArray) : Option (List S86 × Int × Int) := some (lexR (lex a0.data.toList))
def LexP (s : ByteArray) (w : World) (e : Ending) (w' : World) : Prop :=
  ∃ v0_ : Value, e = .returned (.tuple #[v0_, .int .i64 (lexR (lex s.data.toList)).2.1, .int .i64 (lexR (lex s.data.toList)).2.2]) ∧ Kd.R k86 86 w' w.heap.size (fun _ => True) v0_ (lexR (lex s.data.toList)).1 ∧ Below w.heap.size w w'

set_option maxHeartbeats 4000000 in
set_option maxRecDepth 100000 in
theorem lex_long (s : ByteArray) (w : World) (hs : 20000 < s.size) : Calls Tryz.prog 54 #[.string s] w (LexP s w) := by
  have HL : Aside0 (lex s.data.toList = .bad 2 (-1)) := ⟨by unfold lex; rw [if_pos (by rw [data_length]; exact hs)]⟩
  go_enter Tryz.func54, Tryz.ntmps54
  go_wp2
  go_ret3
  exact ⟨.slice none 0 0, by rw [HL.out]; rfl, by rw [HL.out]; exact Kd.R_nil _ _ _ _ _, Below.refl _ _⟩

def scanCells (s : ByteArray) : Array Value := (Value.string s :: nums .i64 clsTab).toArray
theorem built_scan (s : ByteArray) : Tryz.prog.built 106 (#[(0, Value.string s), (1, Value.agg (nums .i64 clsTab).toArray)]).toList = some (scanCells s) := by kernel_rfl
theorem scan_size (s : ByteArray) : (Tryz.prog.info? 106).map (·.size) = some (scanCells s).size := by rw [show (scanCells s).size = 257 from by simp [scanCells, nums, clsTab]]; kernel_rfl
theorem scan_old (s : ByteArray) : (Tryz.zeroCells106).size = (scanCells s).size := by rw [show (scanCells s).size = 257 from by simp [scanCells, nums, clsTab]]; kernel_rfl
theorem scan_one (s : ByteArray) : (scanCells s).all (·.oneCell') = true := by simp [scanCells, nums, Value.oneCell']
theorem alloc_size (w : World) (o : Obj) : (w.alloc o).heap.size = w.heap.size + 1 := by show (w.heap.push o).size = _; rw [Array.size_push]
theorem tokL_width (l : List UInt8) (k : Int) (t : List UInt8) (n : Int) (m : Nat) (h : tokL l = .ok k t n m) : 1 ≤ m ∧ m ≤ l.length := by
  cases l with
  | nil => simp [tokL] at h
  | cons c r =>
    have h1 := (List.takeWhile_prefix isWord (l := r)).length_le
    have h2 := (List.takeWhile_prefix isDigit (l := r)).length_le
    have h3 := congrArg List.length (List.takeWhile_append_dropWhile (p := fun d => !(d.toNat == 34 || d.toNat == 10)) (l := r))
    rw [List.length_append] at h3
    simp only [tokL] at h
    split at h
    · split at h <;> (injection h <;> (try simp only [List.length_cons] at *) <;> omega)
    · split at h
      · split at h <;> (injection h <;> (try simp only [List.length_cons] at *) <;> omega)
      · split at h
        · split at h
          · injection h
          · rename_i d r' he
            rw [he] at h3
            simp only [List.length_cons] at h3
            split at h
            · injection h
            · split at h <;> (injection h <;> (try simp only [List.length_cons] at *) <;> omega)
        · split at h
          · split at h
            · rename_i ha
              have : 1 ≤ r.length := by cases r with
                | nil => simp at ha
                | cons => simp
              injection h <;> simp only [List.length_cons] <;> omega
            · split at h <;> (injection h <;> (try simp only [List.length_cons]) <;> omega)
          · split at h <;> (injection h <;> (try simp only [List.length_cons]) <;> omega)
theorem tokL_bad (l : List UInt8) (e : Int) (h : tokL l = .bad e) : e = 2 ∨ e = 3 ∨ e = 4 ∨ e = 6 := by
  cases l with
  | nil => simp [tokL] at h; omega
  | cons c r =>
    simp only [tokL] at h
    (repeat' split at h) <;> (injection h <;> omega)
theorem app_cons (acc : List Tok) (t : Tok) (r : LexR) : (r.cons t).app acc = r.app (acc ++ [t]) := by cases r <;> simp [LexR.cons, LexR.app]
theorem tokInfo : (Tryz.prog.info? 86).map (fun i => (i.zero, i.size, i.bytes)) = some (some (.agg #[.int .i64 0, .string ⟨#[]⟩, .int .i64 0, .int .i64 0]), 4, 40) := by kernel_rfl

section
variable {ops : Array Oper} {rest : List Oper} {o : Oper} {a : Act} {Q : Exit → Act → World → Prop}
theorem tok_append {w0 W : World} (s x : Operand) (hgd : o.guard = none) (ho : o.op = .call { callee := .builtin .append, args := #[s, x], argTypes := #[82, 82] })
    (v : Value) (acc : List Tok) (k n : Int) (i : Nat) (t : List UInt8) (hs : a.eval s = v) (hx : a.eval x = .slice (some ⟨W.heap.size, 0, none⟩) 1 1)
    (HO : Kd.R k86 86 W w0.heap.size (fun _ => True) v (acc.map tokS)) (HB : Below w0.heap.size w0 W) (hl : acc.length ≤ 5000)
    (h : ∀ v1 w1, Kd.R k86 86 w1 w0.heap.size (fun _ => True) v1 ((acc ++ [Tok.mk k t n i]).map tokS) → Below w0.heap.size w0 w1 → W.grownBy w1 v.ownBlock → wpList Tryz.prog ops Q rest (a.put o.dst v1) w1) :
    wpList Tryz.prog ops Q (o :: rest) a (W.alloc (.cells #[.int .i64 k, .string ⟨t.toArray⟩, .int .i64 n, .int .i64 i] 86)) := by
  refine Kd.R_append k86 (w0 := w0) w0.heap.size hgd s x 82 86 (.agg #[.int .i64 0, .string ⟨#[]⟩, .int .i64 0, .int .i64 0]) 40 ho Tryz.underlying82 tokInfo rfl (by decide) (by omega) v (acc.map tokS) (tokS ⟨k, t, n, i⟩) [.int .i64 k, .string ⟨t.toArray⟩, .int .i64 n, .int .i64 i] (fun _ => True) (fun _ => False) hs hx (k86_mkM _ _ _ _) (fun _ hk => hk.elim) (fun _ _ => trivial) HO HB HB.size (by rw [List.length_map]; omega) ?_
  intro v1 w1 h1 h2 h3 h4
  exact h v1 w1 (by rw [List.map_append]; exact h1) h2 h3
end

theorem gapAt_ge (s : ByteArray) (i : Nat) : i ≤ gapAt s i := Nat.le_add_right _ _
set_option maxHeartbeats 4000000 in
set_option maxRecDepth 100000 in
theorem lex_short (s : ByteArray) (w : World) (hs : s.size ≤ 20000) : Calls Tryz.prog 54 #[.string s] w (LexP s w) := by
  go_enter Tryz.func54, Tryz.ntmps54
  go_wp2_with fail
  refine (classes_calls w).mono ?_
  rintro e w1 ⟨rfl, hb1⟩
  have hbd := built_scan s
  have hz1 := scan_size s
  have hz2 := scan_old s
  have hz3 := scan_one s
  generalize (nums .i64 clsTab).toArray = tab at hbd ⊢
  generalize hsc : scanCells s = sc at hbd hz1 hz2 hz3
  have H0 := Lib.hid hbd
  have H1 := Lib.hid hz1
  have H2 := Lib.hid hz2
  have H3 := Lib.hid hz3
  have HSC := Lib.hid hsc
  clear hz1 hz2 hz3 hbd hsc
  go_wp2_with (first | (refine wpList_buildTo rfl 106 _ rfl _ rfl sc (by simpa [Act.eval] using H0.out) ?_) | (refine wpList_store_row rfl 106 _ _ rfl w1.heap.size sc rfl rfl _ _ (blk_new w1 _) H1.out H2.out H3.out ?_))
  have hS2 : Scan ((w1.alloc (.cells Tryz.zeroCells106 106)).setRow w1.heap.size sc) w1.heap.size s := by
    unfold Scan; rw [setRow_heap _ _ _ _ _ _ (blk_new w1 _), ← HSC.out]; rfl
  have hb2 : Below w.heap.size w ((w1.alloc (.cells Tryz.zeroCells106 106)).setRow w1.heap.size sc) := below_setRow (below_alloc hb1 _) hb1.size sc
  have hgs := hb1.size
  generalize (w1.alloc _).setRow w1.heap.size sc = w2 at hS2 hb2 ⊢
  generalize w1.heap.size = g at *
  clear hb1 H0 H1 H2 H3 HSC
  have HS2 := Lib.hid hS2
  clear hS2
  refine (gap_calls s g 0 w2 (by omega) HS2.out (Nat.zero_le _)).mono ?_
  rintro e w3 ⟨rfl, hb3⟩
  have hS3 := HS2.out.below hb3
  replace hb3 := below_then hb2 hb2.size hb3
  clear hb2 HS2
  have HS3 := Lib.hid hS3
  clear hS3
  go_wp2_with fail
  go_loopw [6, 7, 8, 9, 10] (fun v6 v7 _ _ _ wr => ∃ (acc : List Tok) (i F : Nat), i ≤ s.size ∧ v7 = .int .i64 i ∧ Aside0 (acc.length ≤ 5000) ∧ Aside0 (s.size - i < F) ∧ Aside0 (lex s.data.toList = (lexAt F (s.data.toList.drop i) i acc.length).app acc) ∧
    Aside0 (Kd.R k86 86 wr w.heap.size (fun _ => True) v6 (acc.map tokS)) ∧ Aside0 (Below w.heap.size w wr) ∧ Aside0 (Scan wr g s)) (fun _ v7 _ _ _ _ => s.size - (intOf v7).toNat)
  case atStart =>
    refine ⟨[], gapAt s 0, s.size + 1, gapAt_le s 0 (Nat.zero_le _), rfl, ⟨by simp⟩, ⟨by omega⟩, ⟨?_⟩, ⟨Kd.R_nil _ _ _ _ _⟩, ⟨hb3⟩, ⟨HS3.out⟩⟩
    unfold lex gapAt
    rw [if_neg (by rw [data_length]; omega), data_length, List.drop_zero, Nat.zero_add]
    cases lexAt (s.size + 1) (s.data.toList.drop (gapL false s.data.toList)) (gapL false s.data.toList) 0 <;> rfl
  case round =>
    obtain ⟨acc, i, F, hi, rfl, HA, HF, HN, HR, HB, HSr⟩ := hrel
    obtain ⟨F, rfl⟩ : ∃ m, F = m + 1 := ⟨F - 1, by have := HF.out; omega⟩
    by_cases hlt : i < s.size
    · have hne : (s.data.toList.drop i).isEmpty = false := by rw [drop_cons s i hlt]; rfl
      have HNE := Lib.hid hne
      clear hne
      go_wp2_with fail
      refine (next_calls s g i wr hs HSr.out hlt).mono ?_
      rintro e w4 ⟨rfl, hb4⟩
      obtain ⟨A6, c6, e6, _, _⟩ := Kd.R_reads HR.out
      rw [List.length_map] at e6
      subst e6
      cases hT : tokL (s.data.toList.drop i) with
      | bad er =>
        have her := tokL_bad _ _ hT
        have he0 : ((er : Int) == 0) = false := by simp only [beq_eq_false_iff_ne]; omega
        have he1 : ((er : Int) != 0) = true := by simp only [bne_iff_ne]; omega
        have HT := Lib.hid hT
        clear hT her
        simp only [nextV]
        go_wp2
        go_ret3
        have hz : lex s.data.toList = .bad er i := by
          rw [HN.out]
          simp only [lexAt, HNE.out, HT.out, Bool.false_eq_true, if_false, LexR.app]
        exact ⟨.slice none 0 0, by rw [hz]; rfl, by rw [hz]; exact Kd.R_nil _ _ _ _ _, below_alloc (below_then HB.out HB.out.size hb4) _⟩
      | ok k t n m =>
        have hmw := tokL_width _ _ _ _ _ hT
        rw [List.length_drop, data_length] at hmw
        have HT := Lib.hid hT
        clear hT
        simp only [nextV]
        by_cases h5 : acc.length = 5000
        · have h5b : ((acc.length : Int) == 5000) = true := by simp only [beq_iff_eq]; omega
          have H5 := Lib.hid h5
          clear h5
          go_wp2
          go_ret3
          have hz : lex s.data.toList = .bad 2 i := by
            rw [HN.out]
            simp only [lexAt, HNE.out, HT.out, H5.out, Bool.false_eq_true, if_false, if_true, LexR.app]
          exact ⟨.slice none 0 0, by rw [hz]; rfl, by rw [hz]; exact Kd.R_nil _ _ _ _ _, below_alloc (below_then HB.out HB.out.size hb4) _⟩
        · have h5b : ((acc.length : Int) == 5000) = false := by simp only [beq_eq_false_iff_ne]; omega
          have H5 := Lib.hid h5
          clear h5
          have hb5 : Below w.heap.size w w4 := below_then HB.out HB.out.size hb4
          have hS5 := HSr.out.below hb4
          have hR5 := Kd.R_below HR.out hb4
          have HR5 := Lib.hid hR5
          have HS5 := Lib.hid hS5
          clear hS5 hR5
          go_wp2_with (first | ((with_reducible refine gate_builtin (b := .append) (xs := #[.tmp 41, .tmp 43]) rfl ?_); at_builtin; refine tok_append (w0 := w) (.tmp 41) (.tmp 43) rfl rfl (.slice A6 acc.length c6) acc k n i t rfl (by show Value.slice (some ⟨w4.heap.size + 1, 0, none⟩) 1 1 = _; rw [alloc_size]) (Kd.R_alloc HR5.out _) (below_alloc hb5 _) HA.out ?_; intro v1 w5 hr5 hb6 hg5))
          have hS6 : Scan w5 g s := by
            have h2 : (w4.alloc (Obj.cells #[.int .i64 k, .string ⟨t.toArray⟩, .int .i64 n, .int .i64 i] 86)).heap[g]? = w4.heap[g]? := (below_alloc (Below.refl w4.heap.size w4) _).block g (blk_lt HS5.out)
            exact (hg5.block g (Nat.lt_of_lt_of_le (blk_lt HS5.out) (by rw [alloc_size]; exact Nat.le_succ _)) (Kd.R_ne HR5.out HS5.out (by decide))).trans (h2.trans HS5.out)
          have HR6 := Lib.hid hr5
          have HS6 := Lib.hid hS6
          clear hr5 hS6 hg5
          refine (gap_calls s g (i + m) w5 (by omega) HS6.out (by omega)).mono ?_
          rintro e w6 ⟨rfl, hb7⟩
          go_wp2_with fail
          go_roundw
          case measure => simp [intOf]; have h := gapAt_ge s (i + m); have h' := gapAt_le s (i + m) (by omega); omega
          case rel =>
            refine ⟨acc ++ [Tok.mk k t n i], gapAt s (i + m), F, gapAt_le _ _ (by omega), rfl, ⟨by have := HA.out; have := H5.out; rw [List.length_append, List.length_singleton]; omega⟩, ⟨by have := HF.out; have h := gapAt_ge s (i + m); have h' := gapAt_le s (i + m) (by omega); omega⟩, ⟨?_⟩, ⟨Kd.R_below HR6.out hb7⟩, ⟨below_then hb6 hb6.size hb7⟩, ⟨HS6.out.below hb7⟩⟩
            rw [HN.out]
            simp only [lexAt, HNE.out, HT.out, H5.out, Bool.false_eq_true, if_false]
            rw [app_cons, List.length_append, List.length_singleton, List.drop_drop]
            have hd : gapAt s (i + m) = i + m + gapL false ((s.data.toList.drop (i + m))) := rfl
            simp only [hd, List.drop_drop, Nat.add_assoc]
    · obtain rfl : i = s.size := by omega
      have hz : lex s.data.toList = .ok acc := by
        rw [HN.out, List.drop_eq_nil_of_le (by rw [data_length]; exact Nat.le_refl _)]
        simp [lexAt, LexR.app]
      have HZ := Lib.hid hz
      clear hz
      go_wp2
      go_ret3
      exact ⟨_, by rw [HZ.out]; rfl, by rw [HZ.out]; exact HR.out, HB.out⟩
theorem lexer_Lex.calls (s : ByteArray) (r1 : List S86) (r2 r3 : Int) (w : World) (h : lexer_Lex.f s = some (r1, r2, r3)) :
    Calls Tryz.prog 54 #[.string s] w fun e w' => ∃ v0_ : Value, e = .returned (.tuple #[v0_, .int .i64 r2, .int .i64 r3]) ∧ Kd.R k86 86 w' w.heap.size (fun _ => True) v0_ r1 ∧ Below w.heap.size w w' := by
  have h0 : lexR (lex s.data.toList) = (r1, r2, r3) := by simpa [lexer_Lex.f] using h
  have key : Calls Tryz.prog 54 #[.string s] w (LexP s w) := by
    by_cases hs : s.size ≤ 20000
    · exact lex_short s w hs
    · exact lex_long s w (by omega)
  refine key.mono ?_
  intro e w' he
  unfold LexP at he
  rw [h0] at he
  exact he
end Go.Proofs.YtenecpmonodjaaaGreatDoor.PAll

/- Facts on the lexer's words, in Lean alone. -/
namespace Go.Proofs.YtenecpmonodjaaaGreatDoor.PAll
open Go.RowKit Go.Proofs.YtenecpmonodjaaaGreatDoorW.PrintWords Go.Proofs.YtenecpmonodjaaaGreatDoorW.PrintLast Go.Proofs.YtenecpmonodjaaaGreatDoorW.PrintMore
open Go.Proofs.YtenecpmonodjaaaGreatDoor.Obs
set_option linter.unusedVariables false
set_option linter.unusedSimpArgs false

theorem cons_bad {t : Tok} {r : LexR} {e a : Int} (h : r.cons t = .bad e a) : r = .bad e a := by
  cases r with
  | bad e' a' => exact h
  | ok l => cases h
theorem cons_ok {t : Tok} {r : LexR} {l : List Tok} (h : r.cons t = .ok l) : ∃ l', r = .ok l' ∧ l = t :: l' := by
  cases r with
  | bad e' a' => cases h
  | ok l' => injection h with h; exact ⟨l', rfl, h.symm⟩
/-- One round of the lexer. -/
theorem lexAt_succ (f : Nat) (l : List UInt8) (a cnt : Nat) (h : l ≠ []) : lexAt (f + 1) l a cnt = (match tokL l with
    | .bad e => .bad e a
    | .ok k t n w => if cnt = 5000 then .bad 2 a else (lexAt f ((l.drop w).drop (gapL false (l.drop w))) (a + w + gapL false (l.drop w)) (cnt + 1)).cons ⟨k, t, n, a⟩) := by
  rw [lexAt]
  cases l with
  | nil => exact absurd rfl h
  | cons c r => rfl
theorem lexAt_bad : ∀ (f : Nat) (l : List UInt8) (a cnt : Nat) (e x : Int), l.length < f → lexAt f l a cnt = .bad e x → e = 2 ∨ e = 3 ∨ e = 4 ∨ e = 6
  | 0, l, a, cnt, e, x, h, _ => by omega
  | f + 1, l, a, cnt, e, x, h, hb => by
    by_cases hl : l = []
    · subst hl; cases hb
    · rw [lexAt_succ f l a cnt hl] at hb
      cases ht : tokL l with
      | bad e' => rw [ht] at hb; injection hb with h1 h2; subst h1; exact tokL_bad l _ ht
      | ok k t n w =>
        rw [ht] at hb
        simp only at hb
        split at hb
        · injection hb with h1 h2; exact .inl h1.symm
        · have hw := tokL_width l k t n w ht
          exact lexAt_bad f _ _ _ e x (by rw [List.length_drop, List.length_drop]; omega) (cons_bad hb)
theorem lexAt_len : ∀ (f : Nat) (l : List UInt8) (a cnt : Nat) (ts : List Tok), cnt ≤ 5000 → lexAt f l a cnt = .ok ts → ts.length + cnt ≤ 5000
  | 0, l, a, cnt, ts, h, hb => by cases hb
  | f + 1, l, a, cnt, ts, h, hb => by
    by_cases hl : l = []
    · subst hl; injection hb with hb; subst hb; exact (Nat.zero_add cnt).symm ▸ h
    · rw [lexAt_succ f l a cnt hl] at hb
      cases ht : tokL l with
      | bad e' => rw [ht] at hb; cases hb
      | ok k t n w =>
        rw [ht] at hb
        simp only at hb
        split at hb
        · cases hb
        · obtain ⟨l', h1, h2⟩ := cons_ok hb
          have := lexAt_len f _ _ _ l' (by omega) h1
          rw [h2, List.length_cons]
          omega
theorem lex_bad (s : List UInt8) (e x : Int) (h : lex s = .bad e x) : e = 2 ∨ e = 3 ∨ e = 4 ∨ e = 6 := by
  unfold lex at h
  split at h
  · injection h with h1 h2; exact .inl h1.symm
  · exact lexAt_bad _ _ _ _ e x (by rw [List.length_drop]; omega) h
theorem lex_len (s : List UInt8) (ts : List Tok) (h : lex s = .ok ts) : ts.length ≤ 5000 := by
  unfold lex at h
  split at h
  · cases h
  · exact lexAt_len _ _ _ _ ts (Nat.zero_le _) h
end Go.Proofs.YtenecpmonodjaaaGreatDoor.PAll
