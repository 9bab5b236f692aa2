/- merit.values, walked by hand. -/
import Derived.Test.YtenecpmonodjaaaGreatDoorHOps
import Derived.Test.YtenecpmonodjaaaGreatDoorPAllx1
import Derived.Test.YtenecpmonodjaaaGreatDoorHValid
import Derived.Test.YtenecpmonodjaaaGreatDoorPAllx2
import Derived.WalkKit
namespace Go.Proofs.YtenecpmonodjaaaGreatDoor.PAll
open Go.RowKit Go.Proofs.YtenecpmonodjaaaGreatDoorW.PrintWords Go.Proofs.YtenecpmonodjaaaGreatDoorW.PrintLast Go.Proofs.YtenecpmonodjaaaGreatDoorW.PrintMore
open Go.Proofs.YtenecpmonodjaaaGreatDoor.Obs
open Go.ChangeMaps
set_option linter.unusedVariables false
set_option linter.unusedSimpArgs false

def outB (n : Int) : Bool := decide (n < -1000000000000) || decide (1000000000000 < n)
theorem out_f (n : Int) : merit_out.f n = some (outB n) := by
  unfold merit_out.f outB
  by_cases h : n < -1000000000000
  · rw [if_pos h, decide_eq_true h]; rfl
  · rw [if_neg h, decide_eq_false h]; rfl
/-- Is the text a name? -/
def identV (s : List UInt8) : Bool := match lex s with
  | .ok [t] => t.k == 1 && (t.t == s)
  | _ => false
theorem identifier_f (s : ByteArray) : merit_identifier.f s = some (identV s.data.toList) := by
  unfold merit_identifier.f lexer_Lex.f identV
  rw [Option.bind_some]
  cases lex s.data.toList with
  | bad e a => simp [lexR]
  | ok l =>
    match l with
    | [] => simp [lexR]
    | _ :: _ :: r => simp [lexR]; intro h; omega
    | [t] =>
      simp only [lexR, List.map_cons, List.map_nil, List.length_singleton]
      have h0 : rd_T86 [tokS t] 0 = tokS t := rfl
      rw [h0]
      show (if t.k = 1 then some ((⟨t.t.toArray⟩ : ByteArray).toList == s.toList) else some false) = _
      rw [ByteArray.toList_eq, ByteArray.toList_eq]
      by_cases h : t.k = 1
      · rw [if_pos h]; simp [h]
      · rw [if_neg h]; simp [h]
def valsM : List S36 → List (List UInt8 × Int) → Option (List (List UInt8 × Int))
  | [], m => some m
  | v :: r, m => if (lookM m v.f0.data.toList).isSome = true ∨ identV v.f0.data.toList = false ∨ outB v.f1 = true then none else valsM r (m ++ [(v.f0.data.toList, v.f1)])
def ValP (r : Option (List (List UInt8 × Int))) (w : World) (e : Ending) (w' : World) : Prop := match r with
  | none => e = .returned (.tuple #[.map none, .bool false]) ∧ Below w.heap.size w w'
  | some m => e = .returned (.tuple #[.map (some w.heap.size), .bool true]) ∧ MapIs w' w.heap.size m ∧ Below w.heap.size w w'
section
variable {P : Program} {ops : Array Oper} {rest : List Oper} {o : Oper} {a : Act} {Q : Exit → Act → World → Prop}
theorem wpList_update_new {w : World} {b : Nat} {l : List (List UInt8 × Int)} {t k e : TypeId} (h : MapIs w b l) (ht : P.underlying t = some (.map k e)) (hk : P.underlying k = some .string) (hg : o.guard = none) (m x v : Operand)
    (hop : o.op = Op.mapUpdate t m x v) (s : List UInt8) (n : Int) (hm : a.eval m = .map (some b)) (hx : a.eval x = .string ⟨s.toArray⟩) (hv : a.eval v = .int .i64 n) (hn : lookM l s = none)
    (hK : ∀ w', MapIs w' b (l ++ [(s, n)]) → w.grownBy w' (some b) → wpList P ops Q rest (a.put o.dst undef) w') : wpList P ops Q (o :: rest) a w := by
  refine wpList_plain hg fun K' hK' => ?_
  obtain ⟨w', hrun, r1, r2⟩ := h.push ht hk s n hn
  unfold Oper.wp
  simp [execOp, hop, hm, hx, hv, hrun, Result.andThen]
  exact hK' _ _ (hK w' r1 r2)
end
theorem drop_at {α : Type} (l : List α) (k : Nat) (h : k < l.length) (d : α) : l.drop k = l.getD k d :: l.drop (k + 1) := by
  rw [List.drop_eq_getElem_cons h, List.getD_eq_getElem?_getD, List.getElem?_eq_getElem h]
  rfl
set_option maxHeartbeats 4000000 in
set_option maxRecDepth 100000 in
theorem values_calls (A : Option Addr) (cap : Nat) (l : List S36) (w : World) (hC : Kd.C k36 w A l.length l) (hc : l.length ≤ cap) (hl : l.length ≤ 100000) :
    Calls Tryz.prog 20 #[.slice A l.length cap] w (ValP (valsM l []) w) := by
  have hmm := @run_makeMap Tryz.prog
  have hM0 := MapIs.made w
  have hB0 : Below w.heap.size w (w.alloc (.map #[] 0)) := below_alloc (Below.refl _ _) _
  go_enter Tryz.func20, Tryz.ntmps20
  go_wp2_with fail
  generalize w.alloc (.map #[] 0) = wm at hM0 hB0 ⊢
  go_loopw [12] (fun v12 wr => ∃ (k : Nat) (m : List (List UInt8 × Int)), k ≤ l.length ∧ v12 = .int .i64 k ∧ Aside0 (valsM l [] = valsM (l.drop k) m) ∧ Aside0 (MapIs wr w.heap.size m) ∧ Aside0 (Below w.heap.size w wr)) (fun v12 _ => l.length - (intOf v12).toNat)
  case atStart => exact ⟨0, [], Nat.zero_le _, rfl, ⟨by rw [List.drop_zero]⟩, ⟨hM0⟩, ⟨hB0⟩⟩
  case round =>
    clear hM0 hB0
    obtain ⟨k, m, hk, rfl, HV, HM, HB⟩ := hrel
    by_cases hlt : k < l.length
    · obtain ⟨ad, rfl, z0, z1⟩ := at_T36 hC (k : Int) (by omega) (by omega)
      have hrd : rd_T36 l (k : Int) = l.getD k z36 := rfl
      rw [hrd, Int.toNat_natCast] at z0 z1
      have hdr := drop_at l k hlt z36
      generalize l.getD k z36 = x at z0 z1 hdr
      have hV2 := HV.out
      rw [hdr] at hV2
      have HV2 := Aside0.mk hV2
      have k0 := (HB.out.cell (World.block_lt_of_cell? _ _ z0)).trans z0
      have k1 := (HB.out.cell (World.block_lt_of_cell? _ _ z1)).trans z1
      clear z0 z1 hdr hrd HV hV2
      obtain ⟨⟨⟨nm⟩⟩, vl⟩ := x
      have hM1 := HM.out.below (below_alloc (Below.refl wr.heap.size wr) (.cells #[.string ⟨nm.toArray⟩, .int .i64 vl] 36))
      have hB1 := below_alloc HB.out (.cells #[.string ⟨nm.toArray⟩, .int .i64 vl] 36)
      have hlook := hM1.lookOk (P := Tryz.prog) Tryz.underlying51 Tryz.underlying9 (zero_int _) ⟨nm.toArray⟩
      have HM1 := Aside0.mk hM1
      have HB1 := Aside0.mk hB1
      clear hM1 hB1 HM HB
      cases hq : lookM m nm with
      | some vq =>
        have hl1 : (Instr.lookup 51 (.map (some w.heap.size)) (.string ⟨nm.toArray⟩) true).run Tryz.prog (wr.alloc (.cells #[.string ⟨nm.toArray⟩, .int .i64 vl] 36)) = .ok (.tuple #[.int .i64 vq, .bool true]) (wr.alloc (.cells #[.string ⟨nm.toArray⟩, .int .i64 vl] 36)) := by
          rw [hlook]; show Result.ok (Value.tuple #[.int .i64 ((lookM m nm).getD 0), .bool (lookM m nm).isSome]) _ = _; rw [hq]; rfl
        have HQ := Lib.hid (HV2.out.trans (show valsM (⟨⟨⟨nm⟩⟩, vl⟩ :: l.drop (k + 1)) m = none by unfold valsM; rw [if_pos (.inl (by show (lookM m nm).isSome = true; rw [hq]; rfl))]))
        clear hq hlook HV2
        go_wp2
        go_ret2
        rw [HQ.out]
        exact ⟨rfl, HB1.out⟩
      | none =>
        have hl1 : (Instr.lookup 51 (.map (some w.heap.size)) (.string ⟨nm.toArray⟩) true).run Tryz.prog (wr.alloc (.cells #[.string ⟨nm.toArray⟩, .int .i64 vl] 36)) = .ok (.tuple #[.int .i64 0, .bool false]) (wr.alloc (.cells #[.string ⟨nm.toArray⟩, .int .i64 vl] 36)) := by
          rw [hlook]; show Result.ok (Value.tuple #[.int .i64 ((lookM m nm).getD 0), .bool (lookM m nm).isSome]) _ = _; rw [hq]; rfl
        have HN := Lib.hid hq
        clear hq hlook
        go_wp2_with fail
        refine (merit_identifier.calls _ (identV nm) _ (identifier_f ⟨⟨nm⟩⟩)).mono ?_
        rintro e w3 ⟨rfl, hb3⟩
        have hB3 := below_then HB1.out HB1.out.size hb3
        have hM3 := HM1.out.below hb3
        have hN3 := blk_below (blk_new wr (.cells #[.string ⟨nm.toArray⟩, .int .i64 vl] 36)) hb3
        have c0 := (blk_cell hN3 0).trans rfl
        have c1 := (blk_cell hN3 1).trans rfl
        have HB3 := Lib.hid hB3
        have HM3 := Lib.hid hM3
        clear hB3 hM3 hb3 hl1 HM1 HB1
        cases hi : identV nm with
        | false =>
          have HQ := Lib.hid (HV2.out.trans (show valsM (⟨⟨⟨nm⟩⟩, vl⟩ :: l.drop (k + 1)) m = none by unfold valsM; rw [if_pos (.inr (.inl hi))]))
          go_wp2
          go_ret2
          rw [HQ.out]
          exact ⟨rfl, HB3.out⟩
        | true =>
          have HI := Lib.hid hi
          go_wp2_with fail
          refine (merit_out.calls vl (outB vl) _ (out_f vl)).mono ?_
          rintro e w4 ⟨rfl, hd4⟩
          have hB4 := below_then HB3.out HB3.out.size hd4.below
          have hM4 := HM3.out.below hd4.below
          have hN4 := blk_below hN3 hd4.below
          clear c0 c1 hN3 hd4 HB3 HM3
          cases ho : outB vl with
          | true =>
            have HQ := Lib.hid (HV2.out.trans (show valsM (⟨⟨⟨nm⟩⟩, vl⟩ :: l.drop (k + 1)) m = none by unfold valsM; rw [if_pos (.inr (.inr ho))]))
            have HB4 := Lib.hid hB4
            clear hB4
            go_wp2
            go_ret2
            rw [HQ.out]
            exact ⟨rfl, HB4.out⟩
          | false =>
            have HQ := Lib.hid (HV2.out.trans (show valsM (⟨⟨⟨nm⟩⟩, vl⟩ :: l.drop (k + 1)) m = valsM (l.drop (k + 1)) (m ++ [(nm, vl)]) by
              rw [valsM]
              exact if_neg (fun h => by
                rcases h with h | h | h
                · rw [show lookM m (⟨⟨nm⟩⟩ : ByteArray).data.toList = none from HN.out] at h; exact absurd h (by decide)
                · rw [show identV (⟨⟨nm⟩⟩ : ByteArray).data.toList = true from HI.out] at h; exact absurd h (by decide)
                · rw [show outB vl = true from h] at ho; exact absurd ho (by decide))))
            have c0 := (blk_cell hN4 0).trans rfl
            have c1 := (blk_cell hN4 1).trans rfl
            have HB4 := Lib.hid hB4
            clear hB4 hi ho hN4
            go_wp2_with (refine wpList_update_new hM4 Tryz.underlying51 Tryz.underlying9 rfl _ _ _ rfl nm vl rfl rfl rfl HN.out ?_; intro w5 hM5 hg5)
            have hB5 := below_map HB4.out hg5 (Nat.le_refl _)
            go_roundw
            case rel => exact ⟨k + 1, m ++ [(nm, vl)], by omega, by go_num, ⟨HQ.out⟩, ⟨hM5⟩, ⟨hB5⟩⟩
            case measure => simp [intOf]; omega
    · obtain rfl : k = l.length := by omega
      go_wp2
      go_ret2
      rw [HV.out, List.drop_length]
      exact ⟨rfl, HM.out, HB.out⟩
end Go.Proofs.YtenecpmonodjaaaGreatDoor.PAll

/- merit.Eval, walked by hand. -/
namespace Go.Proofs.YtenecpmonodjaaaGreatDoor.PAll
open Go.RowKit Go.Proofs.YtenecpmonodjaaaGreatDoorW.PrintWords Go.Proofs.YtenecpmonodjaaaGreatDoorW.PrintLast Go.Proofs.YtenecpmonodjaaaGreatDoorW.PrintMore
open Go.Proofs.YtenecpmonodjaaaGreatDoor.Obs
set_option linter.unusedVariables false
set_option linter.unusedSimpArgs false

def applyZ (op : Int) (l : List Int) : Int := (merit_apply.f op l).getD 0
/-- The operands' values, out of those that have been found. -/
def kidsV (found : List Int) (ks : List Int) : List Int := ks.map fun k => found.getD k.toNat 0
def evalGo (m : List (List UInt8 × Int)) : List S57 → List Int → Int → Int × Int
  | [], _, last => (last, 0)
  | x :: r, found, last =>
    if x.f0 = 1 then (if outB x.f1 = true then (0, 9) else evalGo m r (found ++ [x.f1]) x.f1)
    else if x.f0 = 2 then (match lookM m x.f2.data.toList with
      | none => (0, 7)
      | some v => if outB v = true then (0, 9) else evalGo m r (found ++ [v]) v)
    else if outB (applyZ x.f0 (kidsV found x.f3)) = true then (0, 9) else evalGo m r (found ++ [applyZ x.f0 (kidsV found x.f3)]) (applyZ x.f0 (kidsV found x.f3))
def evalX (xs : List S57) (l : List S36) : Int × Int := match valsM l [] with
  | none => (0, 1)
  | some m => if validX xs = true then evalGo m xs [] 0 else (0, 1)
def merit_Eval.f (xs : List S57) (l : List S36) : Option (Int × Int) := if l.length ≤ 100000 then some (evalX xs l) else none

/-! ### the closures -/
def Ev1P (v e : Int) (g : Nat) (w : World) (en : Ending) (w' : World) : Prop := en = .returned (.tuple #[]) ∧ w'.heap[g]? = some (.cells #[.int .i64 (if e = 0 then v else 0)] 3 (0, 0)) ∧ w'.heap[g + 1]? = some (.cells #[.int .i64 e] 27 (0, 0)) ∧ Fr (fun k => k = g) w w'
set_option maxHeartbeats 1000000 in
theorem eval1_calls (g : Nat) (v e : Int) (w : World) (h0 : w.heap[g]? = some (.cells #[.int .i64 v] 3 (0, 0))) (h1 : w.heap[g + 1]? = some (.cells #[.int .i64 e] 27 (0, 0))) (u : FrameMode) :
    CallsD Tryz.prog 21 #[.pointer (some ⟨g + 1, 0, none⟩), .pointer (some ⟨g, 0, none⟩)] u w fun en u' w' => u' = u ∧ Ev1P v e g w en w' := by
  have c0 := (blk_cell h0 0).trans rfl
  have c1 := (blk_cell h1 0).trans rfl
  have f0 := blk_frozen h0 0
  go_enter_d Tryz.func21, Tryz.ntmps21
  by_cases he : e = 0
  · subst he
    go_wp2
    refine bodyPost_ret (results_none rfl _ _ _) rfl ⟨rfl, ?_, h1, Fr.refl _ _⟩
    rw [if_pos rfl]; exact h0
  · have heb : (e != 0) = true := bne_iff_ne.2 he
    have HE := Lib.hid he
    have HF := Lib.hid ((Fr.refl (fun k => k = g) w).setCell ⟨g, 0, none⟩ (.int .i64 0) (fun _ => rfl))
    clear he
    go_wp2
    refine bodyPost_ret (results_none rfl _ _ _) rfl ⟨rfl, ?_, blk_far h1 (show g + 1 ≠ g by omega) _, HF.out⟩
    rw [if_neg HE.out]
    exact blk_set h0 0 _
def Ev2P (a b : Int) (w : World) (e : Ending) (w' : World) : Prop := e = .returned (.tuple #[.int .i64 a, .int .i64 b]) ∧ w' = w
theorem eval2_calls (a b : Int) (w : World) : Calls Tryz.prog 22 #[.int .i64 a, .int .i64 b] w (Ev2P a b w) := by
  go_enter Tryz.func22, Tryz.ntmps22
  go_wp2
  go_ret2
  exact ⟨rfl, rfl⟩

/-! ### the loop's state -/
structure EvSt (w wr : World) (gf b n : Nat) (m : List (List UInt8 × Int)) (found : List Int) (last er : Int) : Prop where
  below : Below w.heap.size w wr
  cv : wr.heap[w.heap.size]? = some (.cells #[.int .i64 last] 3 (0, 0))
  ce : wr.heap[w.heap.size + 1]? = some (.cells #[.int .i64 er] 27 (0, 0))
  cf : wr.heap[gf]? = some (.cells (nums .i64 (found ++ List.replicate (n - found.length) 0)).toArray 3 (0, 0))
  cm : MapIs wr b m
  gfl : w.heap.size + 1 < gf
  bl : w.heap.size + 1 < b
  bf : b ≠ gf
namespace EvSt
variable {w wr w1 : World} {gf b n : Nat} {m : List (List UInt8 × Int)} {found : List Int} {last er : Int}
theorem next (h : EvSt w wr gf b n m found last er) (hb : Below wr.heap.size wr w1) : EvSt w w1 gf b n m found last er :=
  ⟨below_then h.below h.below.size hb, blk_below h.cv hb, blk_below h.ce hb, blk_below h.cf hb, h.cm.below hb, h.gfl, h.bl, h.bf⟩
theorem set_below {g i : Nat} {u : Value} (h : Below w.heap.size w wr) (hg : w.heap.size ≤ g) : Below w.heap.size w (wr.setCell ⟨g, i, none⟩ u) :=
  ((Fr.below h (S := fun _ => False)).step (Fr.setCell1 wr ⟨g, i, none⟩ u) (fun k hk e => by have : k = g := e; omega)).toBelow (fun _ _ h => h)
theorem map_far {g i : Nat} {u : Value} (h : MapIs wr b m) (hg : b ≠ g) : MapIs (wr.setCell ⟨g, i, none⟩ u) b m := h.keep (Below.heap_setCell wr ⟨g, i, none⟩ u b hg)
theorem setv (h : EvSt w wr gf b n m found last er) (v : Int) : EvSt w (wr.setCell ⟨w.heap.size, 0, none⟩ (.int .i64 v)) gf b n m found v er :=
  ⟨set_below h.below (Nat.le_refl _), (blk_set h.cv 0 _).trans rfl, blk_far h.ce (show w.heap.size + 1 ≠ w.heap.size by omega) _, blk_far h.cf (show gf ≠ w.heap.size by have := h.gfl; omega) _, map_far h.cm (by have := h.bl; omega), h.gfl, h.bl, h.bf⟩
theorem sete (h : EvSt w wr gf b n m found last er) (v : Int) : EvSt w (wr.setCell ⟨w.heap.size + 1, 0, none⟩ (.int .i64 v)) gf b n m found last v :=
  ⟨set_below h.below (Nat.le_succ _), blk_far h.cv (show w.heap.size ≠ w.heap.size + 1 by omega) _, (blk_set h.ce 0 _).trans rfl, blk_far h.cf (show gf ≠ w.heap.size + 1 by have := h.gfl; omega) _, map_far h.cm (by have := h.bl; omega), h.gfl, h.bl, h.bf⟩
theorem push (h : EvSt w wr gf b n m found last er) (v : Int) (hk : found.length < n) : EvSt w (wr.setCell ⟨gf, found.length, none⟩ (.int .i64 v)) gf b n m (found ++ [v]) last er := by
  refine ⟨set_below h.below (by have := h.gfl; omega), blk_far h.cv (show w.heap.size ≠ gf by have := h.gfl; omega) _, blk_far h.ce (show w.heap.size + 1 ≠ gf by have := h.gfl; omega) _, ?_, map_far h.cm h.bf, h.gfl, h.bl, h.bf⟩
  refine (blk_set h.cf found.length _).trans ?_
  congr 2
  rw [List.setIfInBounds_toArray]
  congr 1
  obtain ⟨j, hj⟩ : ∃ j, n - found.length = j + 1 := ⟨n - found.length - 1, by omega⟩
  rw [hj, show n - (found ++ [v]).length = j by rw [List.length_append, List.length_singleton]; omega]
  simp [nums, List.replicate_succ]
theorem cells (h : EvSt w wr gf b n m found last er) : wr.cell? ⟨w.heap.size, 0, none⟩ = some (.int .i64 last) ∧ wr.cell? ⟨w.heap.size + 1, 0, none⟩ = some (.int .i64 er) ∧ wr.frozen? ⟨w.heap.size, 0, none⟩ = false ∧ wr.frozen? ⟨w.heap.size + 1, 0, none⟩ = false :=
  ⟨(blk_cell h.cv 0).trans rfl, (blk_cell h.ce 0).trans rfl, blk_frozen h.cv 0, blk_frozen h.ce 0⟩
theorem fcell (h : EvSt w wr gf b n m found last er) (j : Nat) (hj : j < found.length) : wr.cell? ⟨gf, j, none⟩ = some (.int .i64 (found.getD j 0)) := by
  refine (blk_cell h.cf j).trans ?_
  rw [List.getElem?_toArray, nums, List.getElem?_map, List.getElem?_append_left hj, List.getD_eq_getElem?_getD, List.getElem?_eq_getElem hj]
  rfl
theorem fput (h : EvSt w wr gf b n m found last er) (hj : found.length < n) : wr.cell? ⟨gf, found.length, none⟩ = some (.int .i64 0) ∧ wr.frozen? ⟨gf, found.length, none⟩ = false := by
  refine ⟨(blk_cell h.cf _).trans ?_, blk_frozen h.cf _⟩
  rw [List.getElem?_toArray, nums, List.getElem?_map, List.getElem?_append_right (Nat.le_refl _), Nat.sub_self]
  obtain ⟨j, hj⟩ : ∃ j, n - found.length = j + 1 := ⟨n - found.length - 1, by omega⟩
  rw [hj]
  rfl
end EvSt
theorem evalGo_cons (m : List (List UInt8 × Int)) (x : S57) (r : List S57) (found : List Int) (last : Int) : evalGo m (x :: r) found last = (if x.f0 = 1 then (if outB x.f1 = true then (0, 9) else evalGo m r (found ++ [x.f1]) x.f1)
    else if x.f0 = 2 then (match lookM m x.f2.data.toList with
      | none => (0, 7)
      | some v => if outB v = true then (0, 9) else evalGo m r (found ++ [v]) v)
    else if outB (applyZ x.f0 (kidsV found x.f3)) = true then (0, 9) else evalGo m r (found ++ [applyZ x.f0 (kidsV found x.f3)]) (applyZ x.f0 (kidsV found x.f3))) := rfl
def EvP (r : Int × Int) (w : World) (e : Ending) (w' : World) : Prop := e = .returned (.tuple #[.int .i64 r.1, .int .i64 r.2]) ∧ Below w.heap.size w w'
/-- The end of Eval: the deferred closure, the results. -/
theorem eval_end (w wr : World) (gf b n : Nat) (m : List (List UInt8 × Int)) (found : List Int) (v er : Int) (tmps : Array Value) (r : Int × Int) (h4 : tmps.getD 4 undef = .pointer (some ⟨w.heap.size, 0, none⟩)) (h5 : tmps.getD 5 undef = .pointer (some ⟨w.heap.size + 1, 0, none⟩))
    (hS : EvSt w wr gf b n m found v er) (hr : r = (if er = 0 then v else 0, er)) :
    Leaves Tryz.prog Tryz.f8 tmps (EvP r w) [⟨.fn (.func 21) #[.pointer (some ⟨w.heap.size + 1, 0, none⟩), .pointer (some ⟨w.heap.size, 0, none⟩)], #[]⟩] .returning wr := by
  refine leaves_cons (f := 21) (args := #[.pointer (some ⟨w.heap.size + 1, 0, none⟩), .pointer (some ⟨w.heap.size, 0, none⟩)]) (by simp) (by simp [go_sem]) ?_
  refine (eval1_calls w.heap.size v er wr hS.cv hS.ce .returning).mono ?_
  rintro e u' w2 ⟨rfl, rfl, q0, q1, hf⟩
  have c0 := (blk_cell q0 0).trans rfl
  have c1 := (blk_cell q1 0).trans rfl
  have hB : Below w.heap.size w w2 := ((Fr.below hS.below (S := fun _ => False)).step hf (fun k hk e => by have : k = w.heap.size := e; omega)).toBelow (fun _ _ h => h)
  refine ⟨.tuple #[.int .i64 r.1, .int .i64 r.2], ?_, rfl, hB⟩
  rw [hr]
  simp only [Array.getD_eq_getD_getElem?] at h4 h5
  simp [results, Tryz.results8, go_sem, h4, h5, c0, c1]
theorem evInfo : (Tryz.prog.info? 3).map (fun i => (i.zero, i.size, i.bytes)) = some (some (.int .i64 0), 1, 8) := by kernel_rfl
theorem madeInts (n : Nat) : madeCells (Value.int .i64 0).cells (n * 1) = (nums .i64 (List.replicate n 0)).toArray := by
  apply Array.ext'
  rw [show (Value.int IntKind.i64 0).cells = #[Value.int .i64 0] from rfl, toList_madeCells_one, Nat.mul_one]
  simp [nums]
theorem applyZ_some (x : S57) (hf : formedB x = true) (h1 : x.f0 ≠ 1) (h2 : x.f0 ≠ 2) (l : List Int) (hl : l.length = x.f3.length) : merit_apply.f x.f0 l = some (applyZ x.f0 l) := by
  have hops := ((formed_iff x).1 hf).1
  have h : ∃ v, merit_apply.f x.f0 l = some v := by
    have hnum : ∀ b, ∃ v, merit_number.f b = some v := fun b => by unfold merit_number.f; split <;> exact ⟨_, rfl⟩
    have hdiv : ∀ a b, ∃ v, merit_div.f a b = some v := fun a b => by unfold merit_div.f; (repeat' split) <;> exact ⟨_, rfl⟩
    have hmul : ∀ a b, ∃ v, merit_mul.f a b = some v := fun a b => by
      unfold merit_mul.f merit_abs.f bits_Mul64.f
      simp only [Option.bind_some]
      rw [if_pos (by
        have hw : ∀ z : Int, 0 ≤ IntKind.u64.wrap z ∧ IntKind.u64.wrap z < 18446744073709551616 := fun z => by rw [IntKind.wrap_u64]; omega
        exact ⟨(hw _).1, (hw _).2, (hw _).1, (hw _).2⟩)]
      simp only [Option.bind_some]
      (repeat' split) <;> exact ⟨_, rfl⟩
    unfold merit_apply.f
    rcases ops_cases x.f0 with h | h | h | h | h
    · omega
    · obtain ⟨h0, h⟩ := h
      have : l.length = 1 := by omega
      rw [h]
      simp only [show ¬ (12 : Int) = 3 by decide, show ¬ (12 : Int) = 4 by decide, show ¬ (12 : Int) = 5 by decide, show ¬ (12 : Int) = 6 by decide, show ¬ (12 : Int) = 7 by decide, show ¬ (12 : Int) = 8 by decide, show ¬ (12 : Int) = 10 by decide, show ¬ (12 : Int) = 11 by decide, show ¬ (12 : Int) = 9 by decide, if_false]
      rw [if_pos (by omega)]
      exact ⟨_, rfl⟩
    · obtain ⟨h0, h⟩ := h
      have : l.length = 3 := by omega
      rw [h]
      simp only [show ¬ (9 : Int) = 3 by decide, show ¬ (9 : Int) = 4 by decide, show ¬ (9 : Int) = 5 by decide, show ¬ (9 : Int) = 6 by decide, show ¬ (9 : Int) = 7 by decide, show ¬ (9 : Int) = 8 by decide, show ¬ (9 : Int) = 10 by decide, show ¬ (9 : Int) = 11 by decide, if_false, if_true]
      rw [if_pos (by omega), if_pos (show (1 : Int) < (l.length : Int) by omega), if_pos (show (2 : Int) < (l.length : Int) by omega)]
      split <;> exact ⟨_, rfl⟩
    · obtain ⟨h0, h⟩ := h
      have hl2 : l.length = 2 := by omega
      have q0 : (0 : Int) < (l.length : Int) := by omega
      have q1 : (1 : Int) < (l.length : Int) := by omega
      simp only [if_pos q0, if_pos q1]
      rcases h with h | h | h | h | h | h | h | h <;> rw [h] <;> simp only [if_true, if_false, show ¬ (4 : Int) = 3 by decide, show ¬ (5 : Int) = 3 by decide, show ¬ (5 : Int) = 4 by decide, show ¬ (6 : Int) = 3 by decide, show ¬ (6 : Int) = 4 by decide, show ¬ (6 : Int) = 5 by decide, show ¬ (7 : Int) = 3 by decide, show ¬ (7 : Int) = 4 by decide, show ¬ (7 : Int) = 5 by decide, show ¬ (7 : Int) = 6 by decide, show ¬ (8 : Int) = 3 by decide, show ¬ (8 : Int) = 4 by decide, show ¬ (8 : Int) = 5 by decide, show ¬ (8 : Int) = 6 by decide, show ¬ (8 : Int) = 7 by decide, show ¬ (10 : Int) = 3 by decide, show ¬ (10 : Int) = 4 by decide, show ¬ (10 : Int) = 5 by decide, show ¬ (10 : Int) = 6 by decide, show ¬ (10 : Int) = 7 by decide, show ¬ (10 : Int) = 8 by decide, show ¬ (11 : Int) = 3 by decide, show ¬ (11 : Int) = 4 by decide, show ¬ (11 : Int) = 5 by decide, show ¬ (11 : Int) = 6 by decide, show ¬ (11 : Int) = 7 by decide, show ¬ (11 : Int) = 8 by decide, show ¬ (11 : Int) = 10 by decide]
      · exact ⟨_, rfl⟩
      · exact ⟨_, rfl⟩
      · obtain ⟨v, hv⟩ := hmul (rd l 0) (rd l 1); rw [hv]; exact ⟨_, rfl⟩
      · obtain ⟨v, hv⟩ := hdiv (rd l 0) (rd l 1); rw [hv]; exact ⟨_, rfl⟩
      · exact ⟨_, rfl⟩
      · exact ⟨_, rfl⟩
      · obtain ⟨v, hv⟩ := hnum (decide (rd l 0 < rd l 1)); rw [hv]; exact ⟨_, rfl⟩
      · obtain ⟨v, hv⟩ := hnum (rd l 0 == rd l 1); rw [hv]; exact ⟨_, rfl⟩
    · omega
  obtain ⟨v, h⟩ := h
  unfold applyZ
  rw [h]; rfl

set_option maxHeartbeats 2000000 in
set_option maxRecDepth 100000 in
theorem eval_calls (A : Option Addr) (cap : Nat) (xs : List S57) (A1 : Option Addr) (cap1 : Nat) (l : List S36) (w : World) (hC : Kd.C k57 w A xs.length xs) (hcap : xs.length ≤ cap) (hC1 : Kd.C k36 w A1 l.length l) (hcap1 : l.length ≤ cap1) (hl : l.length ≤ 100000) :
    Calls Tryz.prog 8 #[.slice A xs.length cap, .slice A1 l.length cap1] w (EvP (evalX xs l) w) := by
  have hmf : ∀ (fn : Fn) (first cap : Array Value) (w : World), (Instr.makeFunc fn first cap).run Tryz.prog w = .ok (.func fn first cap) w := fun _ _ _ _ => rfl
  go_enter_defers Tryz.func8, Tryz.ntmps8
  go_wp2_with fail
  generalize hW : ((w.alloc (Obj.cells #[Value.int IntKind.i64 0] 3)).alloc (Obj.cells #[Value.int IntKind.i64 0] 27)) = wv
  have s1 : (w.alloc (Obj.cells #[Value.int IntKind.i64 0] 3)).heap.size = w.heap.size + 1 := alloc_size _ _
  have hcv : wv.heap[w.heap.size]? = some (.cells #[.int .i64 0] 3 (0, 0)) := by rw [← hW]; exact blk_alloc (blk_new w _) _
  have hce : wv.heap[w.heap.size + 1]? = some (.cells #[.int .i64 0] 27 (0, 0)) := by
    rw [← hW]
    have h := blk_new (w.alloc (Obj.cells #[Value.int IntKind.i64 0] 3)) (Obj.cells #[Value.int IntKind.i64 0] 27); rw [s1] at h; exact h
  have hBv : Below w.heap.size w wv := by rw [← hW]; exact below_alloc (below_alloc (Below.refl _ _) _) _
  have hvs : wv.heap.size = w.heap.size + 2 := by rw [← hW, alloc_size, s1]
  clear hW s1
  refine (values_calls A1 cap1 l wv (Kd.C_below hC1 hBv) hcap1 hl).mono ?_
  intro e w1 he
  cases hv : valsM l [] with
  | none =>
    rw [hv] at he
    obtain ⟨rfl, hb1⟩ := he
    have HE := Lib.hid (show evalX xs l = (0, 1) by unfold evalX; rw [hv])
    have hv0 := blk_below hcv hb1
    have hw0 := blk_below hce hb1
    have hb0 := below_then hBv hBv.size hb1
    clear hb1 hcv hce hBv hvs
    have c0 := (blk_cell hv0 0).trans rfl
    have c1 := (blk_cell hw0 0).trans rfl
    have f0 := blk_frozen hv0 0
    have f1 := blk_frozen hw0 0
    have HB := Lib.hid (EvSt.set_below (g := w.heap.size + 1) (i := 0) (u := .int .i64 1) (EvSt.set_below (g := w.heap.size) (i := 0) (u := .int .i64 0) hb0 (Nat.le_refl _)) (Nat.le_succ _))
    have HV := Lib.hid (blk_set hv0 0 (.int .i64 0))
    have HW := Lib.hid (blk_set (blk_far hw0 (p := ⟨w.heap.size, 0, none⟩) (show w.heap.size + 1 ≠ w.heap.size by omega) (.int .i64 0)) 0 (.int .i64 1))
    have HV2 := Lib.hid (blk_far HV.out (p := ⟨w.heap.size + 1, 0, none⟩) (show w.heap.size ≠ w.heap.size + 1 by omega) (.int .i64 1))
    clear hv0 hw0 hb0 HV
    go_wp2_with fail
    generalize (w1.setCell ⟨w.heap.size, 0, none⟩ (.int .i64 0)).setCell ⟨w.heap.size + 1, 0, none⟩ (.int .i64 1) = w9 at *
    clear c0 c1 f0 f1
    have c0 := (blk_cell HV2.out 0).trans rfl
    have c1 := (blk_cell HW.out 0).trans rfl
    show Leaves _ _ _ _ [] .returning w9
    refine ⟨.tuple #[.int .i64 0, .int .i64 1], ?_, by rw [HE.out], HB.out⟩
    simp [results, Tryz.results8, go_sem, c0, c1]
  | some m =>
    rw [hv] at he
    obtain ⟨rfl, hm1, hb1⟩ := he
    rw [hvs] at hm1
    have hC1' := Kd.C_below (Kd.C_below hC hBv) hb1
    go_wp2_with fail
    refine (expr_Valid.calls A cap xs (validX xs) w1 hC1' hcap rfl).mono ?_
    rintro e w2 ⟨rfl, hb2⟩
    have hv0 := blk_below (blk_below hcv hb1) hb2
    have hw0 := blk_below (blk_below hce hb1) hb2
    have hb0 := below_then (below_then hBv hBv.size hb1) (Nat.le_trans hBv.size hb1.size) hb2
    have hm2 := hm1.below hb2
    have hbf2 : w.heap.size + 2 < w2.heap.size := hm2.lt
    cases hval : validX xs with
    | false =>
      have HE := Lib.hid (show evalX xs l = (0, 1) by unfold evalX; rw [hv]; show (if validX xs = true then _ else _) = _; rw [if_neg (by rw [hval]; decide)])
      clear hb1 hcv hce hBv hvs hm1 hm2 hb2 hC1'
      have c0 := (blk_cell hv0 0).trans rfl
      have c1 := (blk_cell hw0 0).trans rfl
      have f0 := blk_frozen hv0 0
      have f1 := blk_frozen hw0 0
      have HB := Lib.hid (EvSt.set_below (g := w.heap.size + 1) (i := 0) (u := .int .i64 1) (EvSt.set_below (g := w.heap.size) (i := 0) (u := .int .i64 0) hb0 (Nat.le_refl _)) (Nat.le_succ _))
      have HV := Lib.hid (blk_set hv0 0 (.int .i64 0))
      have HW := Lib.hid (blk_set (blk_far hw0 (p := ⟨w.heap.size, 0, none⟩) (show w.heap.size + 1 ≠ w.heap.size by omega) (.int .i64 0)) 0 (.int .i64 1))
      have HV2 := Lib.hid (blk_far HV.out (p := ⟨w.heap.size + 1, 0, none⟩) (show w.heap.size ≠ w.heap.size + 1 by omega) (.int .i64 1))
      clear hv0 hw0 hb0 HV
      go_wp2_with fail
      generalize (w2.setCell ⟨w.heap.size, 0, none⟩ (.int .i64 0)).setCell ⟨w.heap.size + 1, 0, none⟩ (.int .i64 1) = w9 at *
      clear c0 c1 f0 f1
      have c0 := (blk_cell HV2.out 0).trans rfl
      have c1 := (blk_cell HW.out 0).trans rfl
      show Leaves _ _ _ _ [] .returning w9
      refine ⟨.tuple #[.int .i64 0, .int .i64 1], ?_, by rw [HE.out], HB.out⟩
      simp [results, Tryz.results8, go_sem, c0, c1]
    | true =>
      have HE := Lib.hid (show evalX xs l = evalGo m xs [] 0 by unfold evalX; rw [hv]; show (if validX xs = true then _ else _) = _; rw [if_pos hval])
      have hlen := valid_len xs hval
      have hmk0 : ∀ wx : World, (Instr.makeSlice 54 (.int .i64 (xs.length : Int)) (.int .i64 (xs.length : Int))).run Tryz.prog wx = .ok (.slice (some ⟨wx.heap.size, 0, none⟩) xs.length xs.length) (wx.alloc (.cells (nums .i64 (List.replicate xs.length 0)).toArray 3)) := fun wx => by
        obtain ⟨i0, hi, hzz⟩ := Option.map_eq_some_iff.1 evInfo
        simp only [Prod.mk.injEq] at hzz
        obtain ⟨hz0, hz1, hz2⟩ := hzz
        have h := run_make (P := Tryz.prog) wx 54 3 i0 (.int .i64 0) Tryz.underlying54 hi hz0 .i64 .i64 (xs.length : Int) (xs.length : Int) (by omega) (by omega) (by rw [hz2]; omega) (by omega)
        rw [Int.toNat_natCast, hz1, madeInts] at h
        exact h
      have hcf := blk_new w2 (.cells (nums .i64 (List.replicate xs.length 0)).toArray 3)
      have hbf := below_alloc (Below.refl w2.heap.size w2) (.cells (nums .i64 (List.replicate xs.length 0)).toArray 3)
      have hS0 : EvSt w (w2.alloc (.cells (nums .i64 (List.replicate xs.length 0)).toArray 3)) w2.heap.size (w.heap.size + 2) xs.length m [] 0 0 :=
        ⟨below_then hb0 hb0.size hbf, blk_below hv0 hbf, blk_below hw0 hbf, hcf, hm2.below hbf, by omega, by omega, by omega⟩
      have HS0 := Lib.hid hS0
      have HV := Lib.hid hv
      have HVAL := Lib.hid hval
      have HN := Lib.hid (valid_nodes xs hval)
      clear hS0 hv hval hcf hbf hb1 hb2 hm1 hm2 hv0 hw0 hb0 hcv hce hBv hvs hC1' hC1
      generalize (nums .i64 (List.replicate xs.length 0)).toArray = ZA at hmk0 HS0
      generalize hgf : w2.heap.size = gf at HS0
      go_wp2_with fail
      generalize w2.alloc (.cells ZA 3) = w3 at HS0 ⊢
      clear hmk0 hgf
      go_loopw [33] (fun v33 wr => ∃ (k : Nat) (found : List Int) (last : Int), k ≤ xs.length ∧ v33 = .int .i64 k ∧ found.length = k ∧ Aside0 (evalGo m xs [] 0 = evalGo m (xs.drop k) found last) ∧ Aside0 (EvSt w wr gf (w.heap.size + 2) xs.length m found last 0)) (fun v33 _ => xs.length - (intOf v33).toNat)
      case atStart => exact ⟨0, [], 0, Nat.zero_le _, rfl, rfl, ⟨by rw [List.drop_zero]⟩, ⟨HS0.out⟩⟩
      case round =>
        clear HS0
        obtain ⟨k, found, last, hk, rfl, hfk, HG, HS⟩ := hrel
        by_cases hlt : k < xs.length
        · obtain ⟨ad, A3, c3, rfl, z0, z1, z2, z3, hl3, hz3⟩ := at_T57 hC (k : Int) (by omega) (by omega)
          have hrd : rd_T57 xs (k : Int) = xs.getD k z57 := rfl
          rw [hrd, Int.toNat_natCast] at z0 z1 z2 z3
          rw [hrd] at hl3 hz3
          have hdr := drop_at xs k hlt z57
          have hnode := HN.out k (xs.getD k z57) (by rw [List.getD_eq_getElem?_getD, List.getElem?_eq_getElem hlt]; rfl)
          generalize xs.getD k z57 = x at *
          have hG2 := HG.out
          rw [hdr, evalGo_cons] at hG2
          have HG2 := Lib.hid hG2
          have hb := HS.out.below
          have k0 := (hb.cell (World.block_lt_of_cell? _ _ z0)).trans z0
          have k1 := (hb.cell (World.block_lt_of_cell? _ _ z1)).trans z1
          have k2 := (hb.cell (World.block_lt_of_cell? _ _ z2)).trans z2
          have k3 := (hb.cell (World.block_lt_of_cell? _ _ z3)).trans z3
          have hkz := Kd.C_below hz3 hb
          obtain ⟨hfm, hks⟩ := hnode
          have HFM := Lib.hid hfm
          have HKS := Lib.hid hks
          have HKZ := Lib.hid hkz
          clear z0 z1 z2 z3 hz3 hdr hrd HG hG2 hb hfm hks hkz
          obtain ⟨x0, x1, x2, x3⟩ := x
          simp only at k0 k1 k2 k3 hl3
          have S1 := Lib.hid (HS.out.next (below_alloc (Below.refl wr.heap.size wr) (.cells #[.int .i64 x0, .int .i64 x1, .string x2, .slice A3 x3.length c3] 57)))
          have HNB := Lib.hid (blk_new wr (.cells #[.int .i64 x0, .int .i64 x1, .string x2, .slice A3 x3.length c3] 57))
          clear HS
          by_cases h1 : x0 = 1
          · subst h1
            have S2 := S1.out.setv x1
            obtain ⟨c0, c1, f0, f1⟩ := S1.out.cells
            have HQ0 := Lib.hid (HG2.out.trans (if_pos rfl))
            clear S1 HG2 HKZ HFM HKS HNB
            have S2' := Lib.hid S2
            clear S2
            go_wp2_with fail
            generalize (wr.alloc (.cells #[.int .i64 1, .int .i64 x1, .string x2, .slice A3 x3.length c3] 57)).setCell ⟨w.heap.size, 0, none⟩ (.int .i64 x1) = w3 at S2' ⊢
            have S3 := S2'.out
            clear c0 c1 f0 f1 k0 k1 k2 k3 S2'
            refine (merit_out.calls x1 (outB x1) _ (out_f x1)).mono ?_
            rintro e w4 ⟨rfl, hd4⟩
            have S4 := S3.next hd4.below
            clear S3 hd4
            cases ho : outB x1 with
            | true =>
              have HQ := Lib.hid (HQ0.out.trans (if_pos ho))
              have S9 := Lib.hid ((S4.setv x1).sete 9)
              obtain ⟨c0, c1, f0, f1⟩ := S4.cells
              clear S4
              go_wp2_with fail
              refine (eval2_calls x1 9 _).mono ?_
              rintro e w10 ⟨rfl, rfl⟩
              go_wp2_with fail
              exact eval_end w _ gf _ _ m _ x1 9 _ _ rfl rfl S9.out (by rw [HE.out, HQ.out]; rfl)
            | false =>
              have HQ := Lib.hid (HQ0.out.trans (if_neg (by rw [ho]; decide)))
              obtain ⟨c0, c1, f0, f1⟩ := S4.cells
              obtain ⟨cp, fp⟩ := S4.fput (by omega)
              have S5 := Lib.hid (S4.push x1 (by omega))
              rw [hfk] at cp fp S5
              clear S4 ho
              go_wp2_with fail
              go_roundw
              case rel => exact ⟨k + 1, found ++ [x1], x1, by omega, by go_num, by rw [List.length_append, List.length_singleton, hfk], ⟨HQ.out⟩, ⟨S5.out⟩⟩
              case measure => simp [intOf]; omega
          · have h1b : (x0 == 1) = false := beq_eq_false_iff_ne.2 h1
            have HG3 := Lib.hid (HG2.out.trans (if_neg h1))
            clear HG2
            by_cases h2 : x0 = 2
            · subst h2
              have HG4 := Lib.hid (HG3.out.trans (if_pos rfl))
              obtain ⟨⟨nm⟩⟩ := x2
              have hlook := S1.out.cm.lookOk (P := Tryz.prog) Tryz.underlying51 Tryz.underlying9 (zero_int _) ⟨nm.toArray⟩
              obtain ⟨c0, c1, f0, f1⟩ := S1.out.cells
              cases hq : lookM m nm with
              | none =>
                have hl1 : (Instr.lookup 51 (.map (some (w.heap.size + 2))) (.string ⟨nm.toArray⟩) true).run Tryz.prog (wr.alloc (.cells #[.int .i64 2, .int .i64 x1, .string ⟨nm.toArray⟩, .slice A3 x3.length c3] 57)) = .ok (.tuple #[.int .i64 0, .bool false]) (wr.alloc (.cells #[.int .i64 2, .int .i64 x1, .string ⟨nm.toArray⟩, .slice A3 x3.length c3] 57)) := by
                  rw [hlook]; show Result.ok (Value.tuple #[.int .i64 ((lookM m nm).getD 0), .bool (lookM m nm).isSome]) _ = _; rw [hq]; rfl
                have HQ := Lib.hid (HG4.out.trans (show (match lookM m nm with | none => ((0 : Int), (7 : Int)) | some v => _) = (0, 7) by rw [hq]))
                have S2 := S1.out.setv 0
                have S2' := Lib.hid S2
                clear S2 S1 HG3 HG4 HKZ HFM HKS HNB hq hlook
                go_wp2_with fail
                generalize (wr.alloc (.cells #[.int .i64 2, .int .i64 x1, .string ⟨nm.toArray⟩, .slice A3 x3.length c3] 57)).setCell ⟨w.heap.size, 0, none⟩ (.int .i64 0) = w3 at S2' ⊢
                have S3 := S2'.out
                clear c0 c1 f0 f1 k0 k1 k2 k3 S2' hl1
                have S9 := Lib.hid ((S3.setv 0).sete 7)
                obtain ⟨c0, c1, f0, f1⟩ := S3.cells
                clear S3
                refine (eval2_calls 0 7 _).mono ?_
                rintro e w10 ⟨rfl, rfl⟩
                go_wp2_with fail
                exact eval_end w _ gf _ _ m _ 0 7 _ _ rfl rfl S9.out (by rw [HE.out, HQ.out]; rfl)
              | some vq =>
                have hl1 : (Instr.lookup 51 (.map (some (w.heap.size + 2))) (.string ⟨nm.toArray⟩) true).run Tryz.prog (wr.alloc (.cells #[.int .i64 2, .int .i64 x1, .string ⟨nm.toArray⟩, .slice A3 x3.length c3] 57)) = .ok (.tuple #[.int .i64 vq, .bool true]) (wr.alloc (.cells #[.int .i64 2, .int .i64 x1, .string ⟨nm.toArray⟩, .slice A3 x3.length c3] 57)) := by
                  rw [hlook]; show Result.ok (Value.tuple #[.int .i64 ((lookM m nm).getD 0), .bool (lookM m nm).isSome]) _ = _; rw [hq]; rfl
                have HQ0 := Lib.hid (HG4.out.trans (show (match lookM m nm with | none => ((0 : Int), (7 : Int)) | some v => if outB v = true then (0, 9) else evalGo m (xs.drop (k + 1)) (found ++ [v]) v) = if outB vq = true then (0, 9) else evalGo m (xs.drop (k + 1)) (found ++ [vq]) vq by rw [hq]))
                have S2 := S1.out.setv vq
                have S2' := Lib.hid S2
                clear S2 S1 HG3 HG4 HKZ HFM HKS HNB hq hlook
                go_wp2_with fail
                generalize (wr.alloc (.cells #[.int .i64 2, .int .i64 x1, .string ⟨nm.toArray⟩, .slice A3 x3.length c3] 57)).setCell ⟨w.heap.size, 0, none⟩ (.int .i64 vq) = w3 at S2' ⊢
                have S3 := S2'.out
                clear c0 c1 f0 f1 k0 k1 k2 k3 S2' hl1
                refine (merit_out.calls vq (outB vq) _ (out_f vq)).mono ?_
                rintro e w4 ⟨rfl, hd4⟩
                have S4 := S3.next hd4.below
                clear S3 hd4
                cases ho : outB vq with
                | true =>
                  have HQ := Lib.hid (HQ0.out.trans (if_pos ho))
                  have S9 := Lib.hid ((S4.setv vq).sete 9)
                  obtain ⟨c0, c1, f0, f1⟩ := S4.cells
                  clear S4
                  go_wp2_with fail
                  refine (eval2_calls vq 9 _).mono ?_
                  rintro e w10 ⟨rfl, rfl⟩
                  go_wp2_with fail
                  exact eval_end w _ gf _ _ m _ vq 9 _ _ rfl rfl S9.out (by rw [HE.out, HQ.out]; rfl)
                | false =>
                  have HQ := Lib.hid (HQ0.out.trans (if_neg (by rw [ho]; decide)))
                  obtain ⟨c0, c1, f0, f1⟩ := S4.cells
                  obtain ⟨cp, fp⟩ := S4.fput (by omega)
                  have S5 := Lib.hid (S4.push vq (by omega))
                  rw [hfk] at cp fp S5
                  clear S4 ho
                  go_wp2_with fail
                  go_roundw
                  case rel => exact ⟨k + 1, found ++ [vq], vq, by omega, by go_num, by rw [List.length_append, List.length_singleton, hfk], ⟨HQ.out⟩, ⟨S5.out⟩⟩
                  case measure => simp [intOf]; omega
            · have h2b : (x0 == 2) = false := beq_eq_false_iff_ne.2 h2
              have HQ0 := Lib.hid (HG3.out.trans (if_neg h2))
              have HKA := Lib.hid (Kd.C_below HKZ.out (below_alloc (Below.refl wr.heap.size wr) (.cells #[.int .i64 x0, .int .i64 x1, .string x2, .slice A3 x3.length c3] 57)))
              have HAP := Lib.hid (applyZ_some ⟨x0, x1, x2, x3⟩ HFM.out h1 h2)
              have hl3' := formed_len ⟨x0, x1, x2, x3⟩ HFM.out
              have hl33 : x3.length ≤ 3 := hl3'
              have n3 := (blk_cell HNB.out 3).trans rfl
              have n0 := (blk_cell HNB.out 0).trans rfl
              clear HG3 HKZ HFM hl3'
              go_wp2_with fail
              generalize wr.alloc (.cells #[.int .i64 x0, .int .i64 x1, .string x2, .slice A3 x3.length c3] 57) = wa at S1 HNB HKA n0 n3 ⊢
              clear n0 n3
              obtain ⟨wo, hwo⟩ : ∃ wo : World, wo = wr := ⟨_, rfl⟩
              rw [← hwo] at HNB ⊢
              clear hwo
              go_loopw [12, 43] (fun v12 v43 wi => ∃ (q : Nat) (vk : Value), q ≤ x3.length ∧ v43 = .int .i64 q ∧ v12 = vk ∧ Aside0 (Kd.R (Kd.int .i64) 3 wi wa.heap.size (fun _ => True) vk (kidsV found (x3.take q))) ∧ Aside0 (Below wa.heap.size wa wi)) (fun _ v43 _ => x3.length - (intOf v43).toNat)
              case atStart => exact ⟨0, _, Nat.zero_le _, rfl, rfl, ⟨Kd.R_nil _ _ _ _ _⟩, ⟨Below.refl _ _⟩⟩
              case round =>
                obtain ⟨q, vk, hq, rfl, rfl, HR, HB⟩ := hrel
                obtain ⟨A6, c6, e6⟩ := Kd.R_slice HR.out
                subst e6
                have S4 := Lib.hid (S1.out.next HB.out)
                by_cases hlq : q < x3.length
                · obtain ⟨ad3, rfl, zk⟩ := Kd.at_int HKA.out (q : Int) (by omega) (by omega)
                  rw [rd_nat, Int.toNat_natCast] at zk
                  obtain ⟨kd, hkd⟩ : ∃ kd, x3.getD q 0 = kd := ⟨_, rfl⟩
                  rw [hkd] at zk
                  have hkm : kd ∈ x3 := by rw [← hkd, List.getD_eq_getElem?_getD, List.getElem?_eq_getElem hlq]; exact List.getElem_mem hlq
                  obtain ⟨hk0, hkk⟩ := HKS.out kd hkm
                  obtain ⟨kn, rfl⟩ := Int.eq_ofNat_of_zero_le hk0
                  have kk := (HB.out.cell (World.block_lt_of_cell? _ _ zk)).trans zk
                  have fk := S4.out.fcell kn (by omega)
                  have HSN := Lib.hid (show kidsV found (x3.take (q + 1)) = kidsV found (x3.take q) ++ [found.getD kn 0] by
                    unfold kidsV
                    rw [List.take_succ_eq_append_getElem hlq, List.map_append]
                    have : x3[q] = (kn : Int) := by rw [← hkd, List.getD_eq_getElem?_getD, List.getElem?_eq_getElem hlq]; rfl
                    rw [this]; rfl)
                  have hlk : (kidsV found (x3.take q)).length ≤ 3 := by unfold kidsV; rw [List.length_map, List.length_take]; omega
                  have hknn : (kn : Int) < (xs.length : Int) := by omega
                  generalize found.getD kn 0 = kv at fk HSN
                  clear zk hkd hkm
                  go_wp2_with (first | ((with_reducible refine gate_builtin (b := .append) (xs := #[.tmp 47, .tmp 52]) rfl ?_); at_builtin; refine Kd.R_append (Kd.int .i64) (w0 := wa) wa.heap.size rfl (.tmp 47) (.tmp 52) 54 3 (.int .i64 0) 8 rfl Tryz.underlying54 evInfo rfl (by decide) (by omega) (.slice A6 (kidsV found (x3.take q)).length c6) (kidsV found (x3.take q)) kv [.int .i64 kv] (fun _ => True) (fun _ => False) rfl rfl rfl (fun _ h => h.elim) (fun _ _ => trivial) HR.out HB.out HB.out.size (by omega) ?_; intro v6 w6 hr6 hb6 hg6 hat6))
                  rw [← HSN.out] at hr6
                  have HR6 := Aside0.mk hr6
                  have HB6 := Aside0.mk hb6
                  clear hr6 hb6 hg6 hat6
                  go_wp2_with fail
                  go_roundw
                  case rel => exact ⟨q + 1, v6, by omega, by go_num, rfl, HR6, HB6⟩
                  case measure => simp [intOf]; omega
                · obtain rfl : q = x3.length := by omega
                  rw [List.take_length] at HR ⊢
                  have hN0 := (blk_cell (blk_below HNB.out HB.out) 0).trans rfl
                  have hlk : (kidsV found x3).length = x3.length := by unfold kidsV; rw [List.length_map]
                  obtain ⟨_, hc6, hC6⟩ := Kd.R_reads' HR.out
                  have HLK := Lib.hid hlk
                  have HC6 := Lib.hid hC6
                  clear hlk hC6 HB HR
                  go_wp2_with fail
                  refine (merit_apply.calls x0 A6 c6 (kidsV found x3) (applyZ x0 (kidsV found x3)) _ HC6.out hc6 (HAP.out _ HLK.out)).mono ?_
                  rintro e w7 ⟨rfl, hb7⟩
                  have S5 := S4.out.next hb7
                  generalize applyZ x0 (kidsV found x3) = va at HQ0 ⊢
                  have S6' := Lib.hid (S5.setv va)
                  obtain ⟨c0, c1, f0, f1⟩ := S5.cells
                  clear S5 S4 hb7 hN0
                  go_wp2_with fail
                  generalize w7.setCell ⟨w.heap.size, 0, none⟩ (.int .i64 va) = w8 at S6' ⊢
                  have S6 := S6'.out
                  clear c0 c1 f0 f1 S6'
                  refine (merit_out.calls va (outB va) _ (out_f va)).mono ?_
                  rintro e w4 ⟨rfl, hd4⟩
                  have S4 := S6.next hd4.below
                  clear S6 hd4
                  cases ho : outB va with
                  | true =>
                    have HQ := Lib.hid (HQ0.out.trans (if_pos ho))
                    have S9 := Lib.hid ((S4.setv va).sete 9)
                    obtain ⟨c0, c1, f0, f1⟩ := S4.cells
                    clear S4
                    go_wp2_with fail
                    refine (eval2_calls va 9 _).mono ?_
                    rintro e w10 ⟨rfl, rfl⟩
                    go_wp2_with fail
                    exact eval_end w _ gf _ _ m _ va 9 _ _ rfl rfl S9.out (by rw [HE.out, HQ.out]; rfl)
                  | false =>
                    have HQ := Lib.hid (HQ0.out.trans (if_neg (by rw [ho]; decide)))
                    obtain ⟨c0, c1, f0, f1⟩ := S4.cells
                    obtain ⟨cp, fp⟩ := S4.fput (by omega)
                    have S5 := Lib.hid (S4.push va (by omega))
                    rw [hfk] at cp fp S5
                    clear S4 ho
                    go_wp2_with fail
                    go_roundw
                    case rel => exact ⟨k + 1, found ++ [va], va, by omega, by go_num, by rw [List.length_append, List.length_singleton, hfk], ⟨HQ.out⟩, ⟨S5.out⟩⟩
                    case measure => simp [intOf]; omega
        · obtain rfl : k = xs.length := by omega
          have HQ := Lib.hid (HG.out.trans (show evalGo m (xs.drop xs.length) found last = (last, 0) by rw [List.drop_length]; rfl))
          have S9 := Lib.hid ((HS.out.setv last).sete 0)
          obtain ⟨c0, c1, f0, f1⟩ := HS.out.cells
          go_wp2_with fail
          exact eval_end w _ gf _ _ m _ last 0 _ _ rfl rfl S9.out (by rw [HE.out, HQ.out]; rfl)
theorem merit_Eval.calls (A0 : Option Addr) (c0 : Nat) (l0 : List S57) (A1 : Option Addr) (c1 : Nat) (l1 : List S36) (r1 r2 : Int) (w : World) (hr0 : Kd.C k57 w A0 l0.length l0) (hc0 : l0.length ≤ c0) (hr1 : Kd.C k36 w A1 l1.length l1) (hc1 : l1.length ≤ c1) (h : merit_Eval.f l0 l1 = some (r1, r2)) :
    Calls Tryz.prog 8 #[.slice A0 l0.length c0, .slice A1 l1.length c1] w fun e w' => e = .returned (.tuple #[.int .i64 r1, .int .i64 r2]) ∧ Below w.heap.size w w' := by
  unfold merit_Eval.f at h
  split at h
  · rename_i hl
    injection h with h
    refine (eval_calls A0 c0 l0 A1 c1 l1 w hr0 hc0 hr1 hc1 hl).mono ?_
    intro e w' he
    unfold EvP at he
    rw [h] at he
    exact he
  · cases h
end Go.Proofs.YtenecpmonodjaaaGreatDoor.PAll
