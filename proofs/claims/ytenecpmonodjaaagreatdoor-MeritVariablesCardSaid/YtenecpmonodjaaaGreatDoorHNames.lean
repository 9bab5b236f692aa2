/- expr.Names, walked by hand. -/
import Derived.Test.YtenecpmonodjaaaGreatDoorHValid
import Derived.Test.YtenecpmonodjaaaGreatDoorShelfN
import Derived.Laws.AppendOwn
import Derived.Lib.OwnBridge
import Derived.WalkKit
namespace Go.Proofs.YtenecpmonodjaaaGreatDoor.PAll
open Go.RowKit Go.Proofs.YtenecpmonodjaaaGreatDoorW.PrintWords Go.Proofs.YtenecpmonodjaaaGreatDoorW.PrintLast Go.Proofs.YtenecpmonodjaaaGreatDoorW.PrintMore
open Go.Proofs.YtenecpmonodjaaaGreatDoor.Obs
open Go.Sort
set_option linter.unusedVariables false
set_option linter.unusedSimpArgs false

/-- The names of the nodes, in their order. -/
def namesL : List S57 → List (List UInt8)
  | [] => []
  | x :: r => if x.f0 = 2 then x.f2.data.toList :: namesL r else namesL r
theorem namesL_app (a b : List S57) : namesL (a ++ b) = namesL a ++ namesL b := by
  induction a with
  | nil => rfl
  | cons x r ih =>
    show namesL (x :: (r ++ b)) = _
    simp only [namesL]
    split
    · rw [ih]; rfl
    · exact ih
theorem namesL_len (l : List S57) : (namesL l).length ≤ l.length := by
  induction l with
  | nil => exact Nat.le_refl _
  | cons x r ih =>
    simp only [namesL]
    split
    · simp only [List.length_cons]; omega
    · simp only [List.length_cons]; omega
def sortedL (l : List (List UInt8)) : List (List UInt8) := l.mergeSort fun x y => decide (x ≤ y)
/-- The names, in increasing order, each once. -/
def namesX (xs : List S57) : List (List UInt8) := Lib.compact (sortedL (namesL xs))
def bytesL (l : List UInt8) : ByteArray := ⟨l.toArray⟩
def NamesR (xs : List S57) (w : World) (e : Ending) (w' : World) : Prop :=
  ((validX xs = false ∧ e = .returned (.tuple #[.slice none 0 0, .int .i64 1])) ∨
   (validX xs = true ∧ ∃ A c, e = .returned (.tuple #[.slice A (namesX xs).length c, .int .i64 0]) ∧ (namesX xs).length ≤ c ∧ Kd.C Kd.string w' A (namesX xs).length ((namesX xs).map bytesL))) ∧ Below w.heap.size w w'
theorem strInfo : ∃ i, Tryz.prog.info? 9 = some i ∧ i.zero = some (.string ⟨#[]⟩) ∧ i.size = 1 ∧ i.bytes = 16 := by
  have h : (Tryz.prog.info? 9).map (fun i => (i.zero, i.size, i.bytes)) = some (some (.string ⟨#[]⟩), 1, 16) := by kernel_rfl
  exact info_parts h
theorem own_kept {w w1 : World} {base n : Nat} {v : Value} {xs : List Value} (h : w.ownsRow base 9 1 v n xs) (hb : Below w.heap.size w w1) : w1.ownsRow base 9 1 v n xs :=
  own_move h (fun k hk => by
    obtain ⟨cells, hc⟩ := own_typed h k hk
    exact hb.block k (blk_lt hc))
theorem below_grow' (w : World) (os : Array Obj) : Below w.heap.size w (grow w os) := by
  refine ⟨rfl, rfl, rfl, ?_, fun i hi => ?_⟩
  · simp [grow]
  · simp only [grow]
    rw [Array.getElem?_append_left hi]
theorem sortedL_len (l : List (List UInt8)) : (sortedL l).length = l.length := by unfold sortedL; rw [List.length_mergeSort]
def NamesQ (xs : List S57) (w : World) (e : Ending) (w' : World) : Prop :=
  ((validX xs = false ∧ e = .returned (.tuple #[.slice none 0 0, .int .i64 1])) ∨
   (validX xs = true ∧ ∃ v, e = .returned (.tuple #[v, .int .i64 0]) ∧ w'.ownsRow w.heap.size 9 1 v (namesX xs).length ((namesX xs).map encStr))) ∧ Below w.heap.size w w'
set_option maxHeartbeats 4000000 in
set_option maxRecDepth 100000 in
theorem names_calls (A : Option Addr) (cap : Nat) (xs : List S57) (w : World) (hC : Kd.C k57 w A xs.length xs) (hc : xs.length ≤ cap) : Calls Tryz.prog 15 #[.slice A xs.length cap] w (NamesQ xs w) := by
  obtain ⟨i0, hi, hz0, hz1, hz2⟩ := strInfo
  go_enter Tryz.func15, Tryz.ntmps15
  go_wp2_with fail
  refine (valid_calls A cap xs w hC hc).mono ?_
  rintro e w1 ⟨rfl, hb1⟩
  cases hv : validX xs with
  | false =>
    have HV := Lib.hid hv
    clear hv
    go_wp2
    go_ret2
    exact ⟨.inl ⟨HV.out, rfl⟩, hb1⟩
  | true =>
    have HV := Lib.hid hv
    have hlen := (valid_len xs hv).2
    clear hv
    have HB1 := Aside0.mk hb1
    clear hb1
    go_wp2_with fail
    go_loopw [4, 12] (fun v4 v12 wr => ∃ (k : Nat) (v : Value), k ≤ xs.length ∧ v4 = v ∧ v12 = .int .i64 k ∧ Aside0 (Below w.heap.size w wr) ∧ Aside0 (wr.ownsRow w.heap.size 9 1 v (namesL (xs.take k)).length ((namesL (xs.take k)).map encStr))) (fun _ v12 _ => xs.length - (intOf v12).toNat)
    case atStart => exact ⟨0, _, Nat.zero_le _, rfl, rfl, HB1, ⟨by rw [List.take_zero]; exact World.ownsRow_nil _ _ _ _⟩⟩
    case round =>
      clear HB1
      obtain ⟨k, v4, hk, hv4e, rfl, HB, HO⟩ := hrel
      have hv4f := hv4e.symm
      clear hv4e
      subst hv4f
      by_cases hlt : k < xs.length
      · obtain ⟨ad, A3, c3, rfl, z0, z1, z2, z3, hl3, hz3⟩ := at_T57 hC (k : Int) (by omega) (by omega)
        rw [Int.toNat_natCast] at z0 z1 z2 z3
        have k0 := (HB.out.cell (World.block_lt_of_cell? _ _ z0)).trans z0
        have k1 := (HB.out.cell (World.block_lt_of_cell? _ _ z1)).trans z1
        have k2 := (HB.out.cell (World.block_lt_of_cell? _ _ z2)).trans z2
        have k3 := (HB.out.cell (World.block_lt_of_cell? _ _ z3)).trans z3
        clear z0 z1 z2 z3 hz3
        have htk : namesL (xs.take (k + 1)) = namesL (xs.take k) ++ namesL [rd_T57 xs (k : Int)] := by
          rw [List.take_succ_eq_append_getElem hlt, namesL_app]
          congr 2
          unfold rd_T57
          rw [Int.toNat_natCast, List.getD_eq_getElem?_getD, List.getElem?_eq_getElem hlt]
          rfl
        have HTK := Lib.hid htk
        clear htk
        have hnl : (namesL (xs.take k)).length ≤ 300 := by have := namesL_len (xs.take k); rw [List.length_take] at this; omega
        generalize rd_T57 xs (k : Int) = x at *
        obtain ⟨f0, f1, ⟨⟨f2⟩⟩, f3⟩ := x
        simp only at k0 k1 k2 k3 hl3
        have hB2 := below_alloc HB.out (.cells #[.int .i64 f0, .int .i64 f1, .string ⟨f2.toArray⟩, .slice A3 f3.length c3] 57)
        have hO2 := HO.out.alloc (.cells #[.int .i64 f0, .int .i64 f1, .string ⟨f2.toArray⟩, .slice A3 f3.length c3] 57)
        have hG2 := blk_new wr (.cells #[.int .i64 f0, .int .i64 f1, .string ⟨f2.toArray⟩, .slice A3 f3.length c3] 57)
        have HB2 := Aside0.mk hB2
        have HO2 := Aside0.mk hO2
        clear hB2 hO2 HB HO
        by_cases h2 : f0 = 2
        · subst h2
          have HX := Lib.hid (show namesL (xs.take (k + 1)) = namesL (xs.take k) ++ [f2] by rw [HTK.out]; simp only [namesL, if_true])
          generalize namesL (xs.take k) = nl at HX HO2 hnl
          clear hG2
          go_wp2_with (at_builtin; refine wpList_append_own _ rfl _ _ 44 rfl w.heap.size 9 i0 (.string ⟨#[]⟩) 1 16 Tryz.underlying44 hi hz0 hz1 hz2 rfl (by decide) _ _ _ rfl (HO2.out.alloc _) ⟨wr.heap.size + 1, 0, none⟩ 1 1 [.string ⟨f2.toArray⟩] rfl rfl ?c1 ?c2 ?c3 ?c4 ?c5 ?_)
          case c1 =>
            intro j u hj
            cases j with
            | zero => injection hj with hj; subst hj; rw [add_at, ← alloc_size wr (.cells #[.int .i64 2, .int .i64 f1, .string ⟨f2.toArray⟩, .slice A3 f3.length c3] 57)]; exact (blk_cell (blk_new _ _) 0).trans rfl
            | succ j => cases hj
          case c2 => intro u hu; rw [List.mem_singleton.1 hu]; rfl
          case c3 => unfold maxLen; omega
          case c4 => omega
          case c5 => have := HB2.out.size; simp at this ⊢; omega
          intro v5 w5 hO5 hg5 _
          have HO5 := Aside0.mk hO5
          have HB5 := Aside0.mk ((below_alloc HB2.out (.cells #[.string ⟨f2.toArray⟩] 9)).grown hg5 (by have := HB2.out.size; simp at this ⊢; omega) (fun b hb => ((HO2.out.alloc (.cells #[.string ⟨f2.toArray⟩] 9)).lt b hb).1))
          clear hO5 hg5 HB2 HO2
          go_wp2_with fail
          go_roundw
          case rel => exact ⟨k + 1, _, by omega, rfl, congrArg (Value.int .i64) (by omega), HB5, ⟨by rw [HX.out, List.length_append, List.map_append]; exact HO5.out⟩⟩
          case measure => simp [intOf]; omega
        · have hb2 : (f0 == 2) = false := beq_eq_false_iff_ne.2 h2
          have HXH := Lib.hid (show namesL (xs.take (k + 1)) = namesL (xs.take k) by rw [HTK.out]; simp only [namesL]; rw [if_neg h2]; exact List.append_nil _)
          clear h2 hG2
          go_wp2_with fail
          go_roundw
          case rel => exact ⟨k + 1, _, by omega, rfl, congrArg (Value.int .i64) (by omega), HB2, ⟨by rw [HXH.out]; exact HO2.out⟩⟩
          case measure => simp [intOf]; omega
      · have hke : k = xs.length := by omega
        have hO8 := HO.out
        rw [hke, List.take_length] at hO8
        have hnl : (namesL xs).length ≤ 300 := by have := namesL_len xs; omega
        have hB8 := HB.out
        clear HB HO hke
        have HNX := Lib.hid (show namesX xs = Lib.compact (sortedL (namesL xs)) from rfl)
        generalize namesL xs = nl at hO8 hnl HNX
        by_cases h0 : nl = []
        · subst h0
          have hv4 : v4 = .slice none 0 0 ∨ ∃ a c, v4 = .slice a 0 c := by
            rcases hO8.2 with ⟨rfl, _⟩ | ⟨g, cap, cur, rfl, _⟩
            · exact .inl rfl
            · exact .inr ⟨_, _, rfl⟩
          obtain ⟨a, c, rfl⟩ : ∃ a c, v4 = .slice a 0 c := by rcases hv4 with rfl | h; exact ⟨_, _, rfl⟩; exact h
          clear hv4
          have hnx0 : namesX xs = [] := by rw [HNX.out]; unfold sortedL; rw [List.mergeSort_nil]; rfl
          have HN0 := Lib.hid hnx0
          clear hnx0
          go_wp2_with fail
          refine (Tryz.slices_Sort_string_none a c wr).mono ?_
          rintro e w2 ⟨rfl, rfl⟩
          go_wp2_with fail
          refine (Tryz.slices_Compact_string_empty a c _).mono ?_
          rintro e w3 ⟨rfl, rfl⟩
          go_wp2
          go_ret2
          exact ⟨.inr ⟨HV.out, _, rfl, by rw [HN0.out]; exact hO8⟩, hB8⟩
        · have hpos : 0 < nl.length := List.length_pos_iff.2 h0
          have hv4 : v4 ≠ .slice none 0 0 := by
            rintro rfl
            rcases hO8.2 with ⟨_, e⟩ | ⟨g, cap, cur, e, _⟩
            · omega
            · cases e
          obtain ⟨g, c, rfl, hg0, hglt, hcl, hcm, _, hH⟩ := Lib.holds_of_ownsRow hO8 hv4
          clear hv4 h0
          have hl1 := sortedL_len nl
          have hS1 : (sortedL nl).length ≤ nl.length := by omega
          go_wp2_with fail
          refine (Tryz.slices_Sort_string g 0 c nl wr hH hglt (by omega)).mono ?_
          rintro e w2 ⟨rfl, q, os, rfl⟩
          have hO2 := Lib.ownsRow_putRow (q := q) (ys := sortedL nl) (k := nl.length) hO8 hl1 (Nat.le_refl _)
          have hB2 := Lib.below_putRow (enc := encStr) (q := q) (d := (sortedL nl).toArray) hB8 hg0
          have hgr := below_grow' (putRow encStr (Sort.ahead wr q) g 0 (sortedL nl).toArray) os
          replace hO2 := own_kept hO2 hgr
          replace hB2 := below_step hB2 hgr
          rw [List.take_of_length_le hS1] at hO2
          change Below w.heap.size w (grow (putRow encStr (Sort.ahead wr q) g 0 (nl.mergeSort fun x y => decide (x ≤ y)).toArray) os) at hB2
          change (grow (putRow encStr (Sort.ahead wr q) g 0 (nl.mergeSort fun x y => decide (x ≤ y)).toArray) os).ownsRow _ _ _ _ _ _ at hO2
          generalize grow (putRow encStr (Sort.ahead wr q) g 0 (nl.mergeSort fun x y => decide (x ≤ y)).toArray) os = w2 at hO2 hB2 ⊢
          obtain ⟨g', c', he, _, _, _, _, _, hH2⟩ := Lib.holds_of_ownsRow hO2 (by rintro ⟨⟩)
          injection he with he _ hce
          injection he with he
          injection he with he
          subst he; subst hce
          have hcl2 := Lib.compact_length_le (sortedL nl)
          have HL1 := Lib.hid hl1
          clear hgr hH hO8 hB8 hl1
          go_wp2_with fail
          have hcs := Tryz.slices_Compact_string g 0 c (sortedL nl) w2 hH2 (by omega) (by omega)
          rw [HL1.out] at hcs
          refine hcs.mono ?_
          clear hcs
          rintro e w3 ⟨rfl, q2, rfl⟩
          have hys : (Lib.compact (sortedL nl) ++ List.replicate (nl.length - (Lib.compact (sortedL nl)).length) []).length = nl.length := by
            rw [List.length_append, List.length_replicate]
            have := HL1.out
            omega
          have hO3 := Lib.ownsRow_putRow (q := q2) (ys := Lib.compact (sortedL nl) ++ List.replicate (nl.length - (Lib.compact (sortedL nl)).length) []) (k := (Lib.compact (sortedL nl)).length) hO2 hys (by have := HL1.out; omega)
          have hB3 := Lib.below_putRow (enc := encStr) (q := q2) (d := (Lib.compact (sortedL nl) ++ List.replicate (nl.length - (Lib.compact (sortedL nl)).length) []).toArray) hB2 hg0
          rw [List.take_left] at hO3
          generalize putRow encStr (Sort.ahead w2 q2) g 0 (Lib.compact (sortedL nl) ++ List.replicate (nl.length - (Lib.compact (sortedL nl)).length) []).toArray = w3 at hO3 hB3 ⊢
          clear hO2 hB2 hH2 hys
          go_wp2
          go_ret2
          exact ⟨.inr ⟨HV.out, _, rfl, by rw [HNX.out]; exact hO3⟩, hB3⟩
def expr_Names.f (xs : List S57) : Option (List ByteArray × Int) := some (if validX xs = true then ((namesX xs).map bytesL, 0) else ([], 1))
theorem expr_Names.calls (A0 : Option Addr) (c0 : Nat) (l0 : List S57) (r1 : List ByteArray) (r2 : Int) (w : World) (hr0 : Kd.C k57 w A0 l0.length l0) (hc0 : l0.length ≤ c0) (h : expr_Names.f l0 = some (r1, r2)) :
    Calls Tryz.prog 15 #[.slice A0 l0.length c0] w fun e w' => ∃ v0_ : Value, e = .returned (.tuple #[v0_, .int .i64 r2]) ∧ Kd.R Kd.string 9 w' w.heap.size (fun _ => True) v0_ r1 ∧ Below w.heap.size w w' := by
  refine (names_calls A0 c0 l0 w hr0 hc0).mono ?_
  rintro e w' ⟨hr, hb⟩
  unfold expr_Names.f at h
  rcases hr with ⟨hv, rfl⟩ | ⟨hv, v, rfl, ho⟩
  · rw [if_neg (by rw [hv]; decide)] at h
    injection h with h
    injection h with h1 h2
    subst h1; subst h2
    exact ⟨_, rfl, Kd.R_nil _ _ _ _ _, hb⟩
  · rw [if_pos hv] at h
    injection h with h
    injection h with h1 h2
    subst h1; subst h2
    refine ⟨_, rfl, Kd.R_of_own (enc := Value.string) ?_ (fun _ _ => trivial), hb⟩
    unfold encs
    rw [List.length_map, List.map_map]
    exact ho
end Go.Proofs.YtenecpmonodjaaaGreatDoor.PAll
