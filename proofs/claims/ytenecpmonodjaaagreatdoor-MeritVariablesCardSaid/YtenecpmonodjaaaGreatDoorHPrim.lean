/- The parser's primary, walked by hand, under the hypothesis of less rounds. -/
import Derived.Test.YtenecpmonodjaaaGreatDoorHLevel
namespace Go.Proofs.YtenecpmonodjaaaGreatDoor.PAll
open Go.RowKit Go.Proofs.YtenecpmonodjaaaGreatDoorW.PrintWords Go.Proofs.YtenecpmonodjaaaGreatDoorW.PrintLast Go.Proofs.YtenecpmonodjaaaGreatDoorW.PrintMore
open Go.Proofs.YtenecpmonodjaaaGreatDoor.Obs
set_option linter.unusedVariables false
set_option linter.unusedSimpArgs false

theorem PPost_fail {wB w w' : World} {gp : Nat} {ende er : Int} {X : Nat → Prop} {ts : List Tok} {vo vo' : Value} {out : List S57} {ts0 : List Tok} (hP : PSt wB gp ende X w ts vo out) {e : Ending} (h : FailP (failP ende er ts0) w e w') {w0 : World} : ∃ er' a, e = failV er' a ∧ failP ende er ts0 = .fail er' a ∧ PPost wB gp ende X vo' w0 (failP ende er ts0) e w' := by
  obtain ⟨er', a, h1, rfl, rfl⟩ := fail_form h
  exact ⟨er', a, rfl, h1, by rw [h1]; exact ⟨rfl, hP.below⟩⟩

/-- What a primary's own node, and the operands that it has read, are told apart from. -/
def XX (X : Nat → Prop) (g6 : Nat) (vk : Value) : Nat → Prop := fun b => X b ∨ b = g6 ∨ some b = vk.ownBlock
structure KSt (wB : World) (gp : Nat) (ende : Int) (X : Nat → Prop) (g6 : Nat) (op : Int) (vo : Value) (w1 wr : World) (ts : List Tok) (v2 : Value) (out : List S57) (vk : Value) (kids : List Int) : Prop where
  st : PSt wB gp ende (XX X g6 vk) wr ts v2 out
  mv : PMove gp vo v2 w1 wr
  blk : wr.heap[g6]? = some (.cells #[.int .i64 op, .int .i64 0, .string ⟨#[]⟩, vk] 57 (0, 0))
  kid : (Kd.int .i64).R 3 wr wB.heap.size (fun b => (b ≠ gp ∧ ¬ X b) ∧ b ≠ g6 ∧ some b ≠ v2.ownBlock) vk kids
  low : ∀ b, vk.ownBlock = some b → w1.heap.size ≤ b
  g6l : w1.heap.size ≤ g6
  g6B : wB.heap.size ≤ g6
namespace KSt
variable {wB : World} {gp : Nat} {ende : Int} {X : Nat → Prop} {g6 : Nat} {op : Int} {vo : Value} {w1 wr : World} {ts : List Tok} {v2 : Value} {out : List S57} {vk : Value} {kids : List Int}
theorem g6gp (h : KSt wB gp ende X g6 op vo w1 wr ts v2 out vk kids) : g6 ≠ gp := by
  obtain ⟨At, ct, hc, _, _⟩ := h.st.cell
  intro e
  have := h.blk
  rw [e, hc] at this
  injection this with this
  injection this with _ this
  exact absurd this (by decide)
theorem g6own (h : KSt wB gp ende X g6 op vo w1 wr ts v2 out vk kids) : ¬ some g6 = v2.ownBlock := fun e => (h.st.rows.1 g6 e.symm).2 (.inr (.inl rfl))
theorem level (h : KSt wB gp ende X g6 op vo w1 wr ts v2 out vk kids) {w8 : World} {ts3 : List Tok} {v3 : Value} {out3 : List S57} (hP : PSt wB gp ende (XX X g6 vk) w8 ts3 v3 out3) (hM : PMove gp v2 v3 wr w8) : KSt wB gp ende X g6 op vo w1 w8 ts3 v3 out3 vk kids := by
  refine ⟨hP, h.mv.trans hM, hM.1.blk h.blk (fun e => e.elim h.g6gp h.g6own), ?_, h.low, h.g6l, h.g6B⟩
  refine Kd.R_mono (Kd.R_move (Kd.R_bound h.kid) (fun k hk => hM.1.block k hk.2.2.1 (fun e => e.elim (fun e => hk.1.1.1 e) (fun e => hk.1.2.2 e)))) (fun k hk => ⟨hk.1.1, hk.1.2.1, fun e => ?_⟩)
  rcases hM.2 with e' | ⟨b, e', hb⟩
  · exact hk.1.2.2 (e.trans e')
  · rw [e'] at e
    injection e with e
    have := hk.2.2.1
    omega
theorem grow (h : KSt wB gp ende X g6 op vo w1 wr ts v2 out vk kids) {w9 : World} {v' : Value} {i : Int} (ho : (Kd.int .i64).R 3 w9 wB.heap.size (fun b => (b ≠ gp ∧ ¬ X b) ∧ b ≠ g6 ∧ some b ≠ v2.ownBlock) v' (kids ++ [i])) (hb : Below wB.heap.size wB w9) (hg : wr.grownBy w9 vk.ownBlock)
    (hat : v'.ownBlock = vk.ownBlock ∨ ∃ b, v'.ownBlock = some b ∧ wr.heap.size ≤ b) : KSt wB gp ende X g6 op vo w1 (w9.setCell ⟨g6, 3, none⟩ v') ts v2 out v' (kids ++ [i]) := by
  obtain ⟨At, ct, hc, hC, hl⟩ := h.st.cell
  have hgpk : some gp ≠ vk.ownBlock := fun e => (h.kid.1 gp e.symm).1.1 rfl
  have hg6k : some g6 ≠ vk.ownBlock := fun e => (h.kid.1 g6 e.symm).2.1 rfl
  have hc9 := blk_grown hc hg hgpk
  have hg9 := blk_grown h.blk hg hg6k
  have hs : (w9.setCell ⟨g6, 3, none⟩ v').heap.size = w9.heap.size := by simp [World.setCell]
  have hwB := h.g6B
  refine ⟨⟨?_, h.st.gpB, ⟨At, ct, ?_, hC, hl⟩, ?_, ?_⟩, ⟨?_, h.mv.2⟩, ?_, ?_, ?_, h.g6l, h.g6B⟩
  · exact hb.trans (by
      have h := Fr.setCell1 w9 ⟨g6, 3, none⟩ v'
      exact ⟨h.os, h.tape, h.output, h.size, fun k hk => h.block k (Nat.lt_of_lt_of_le hk hb.size) (fun e => by have : k = g6 := e; omega)⟩)
  · exact blk_far hc9 (fun e => h.g6gp e.symm) v'
  · have h1 := Kd.R_grown (Kd.R_bound h.st.rows) hg (fun k hk e => hk.1.2 (.inr (.inr e)))
    refine Kd.R_mono (Kd.R_grown h1 (grown_setCell w9 ⟨g6, 3, none⟩ v') (fun k hk e => hk.1.2 (.inr (.inl (by injection e))))) (fun k hk => ⟨hk.1.1, fun hx => ?_⟩)
    rcases hx with hx | hx | hx
    · exact hk.1.2 (.inl hx)
    · exact hk.1.2 (.inr (.inl hx))
    · rcases hat with e | ⟨b, e, hb⟩
      · exact hk.1.2 (.inr (.inr (hx.trans e)))
      · rw [e] at hx; injection hx with hx; have := hk.2.2.1; omega
  · intro k hk
    rw [hs]
    rcases hk with hk | hk | hk
    · exact Nat.lt_of_lt_of_le (h.st.held k (.inl hk)) hg.size
    · rw [hk]; exact blk_lt hg9
    · exact Kd.R_lt ho k hk.symm
  · refine (h.mv.1.step (Fr.grown hg) (fun b hb e => ?_)).step (Fr.setCell1 w9 ⟨g6, 3, none⟩ v') (fun b hb e => ?_)
    · have := h.low b e.symm; omega
    · have : b = g6 := e; have := h.g6l; omega
  · exact (blk_set hg9 3 v').trans rfl
  · exact Kd.R_grown ho (grown_setCell w9 ⟨g6, 3, none⟩ v') (fun k hk e => hk.2.1 (by injection e))
  · intro b hb
    rcases hat with e | ⟨c, e, hc⟩
    · exact h.low b (e.symm.trans hb)
    · rw [e] at hb; injection hb with hb; have := h.mv.1.size; omega
end KSt
theorem callP_ {P : Program} {ops : Array Oper} {Q : Exit → Act → World → Prop} {oi : Oper} {N : Option Tmp} {a : Act} {w : World} {K : Act → World → Prop} (f : FuncId) (args : Array Value) (hw : Region.wanted oi (yielded ops a.tmps) = true) (hN : oi.dst = N) (hrun : (execOp a.eval oi).run P w = .ok (.enter f args) w)
    (h : Calls P f args w fun e w' => match e with | .returned v => K (a.put N v) w' | .panicked c => Q (.panic c) a w' | .outgrown => LetsOut Q) : if Region.wanted oi (yielded ops a.tmps) = true then Oper.wp P oi a w K Q else K (a.put N undef) w := by
  rw [if_pos hw]
  subst hN
  unfold Oper.wp
  rw [hrun, Oper.upon_enter]
  refine h.mono ?_
  intro e w' hh
  cases e <;> exact hh
theorem intInfo : (Tryz.prog.info? 3).map (fun i => (i.zero, i.size, i.bytes)) = some (some (.int .i64 0), 1, 8) := by kernel_rfl
theorem field1 (a c d : Int) (b : ByteArray) (w : World) : (Instr.field 86 (.agg #[.int .i64 a, .string b, .int .i64 c, .int .i64 d]) 1).run Tryz.prog w = .ok (.string b) w := by kernel_rfl
theorem field2 (a c d : Int) (b : ByteArray) (w : World) : (Instr.field 86 (.agg #[.int .i64 a, .string b, .int .i64 c, .int .i64 d]) 2).run Tryz.prog w = .ok (.int .i64 c) w := by kernel_rfl
set_option maxHeartbeats 8000000 in
set_option maxRecDepth 200000 in
theorem prim_simple (wB : World) (gp : Nat) (ende : Int) (f : Nat) (IH : ∀ g, g ≤ f → LevelOk wB gp ende g ∧ PrimOk wB gp ende g) (X : Nat → Prop) (ts : List Tok) (vo : Value) (out : List S57) (w : World) (hP : PSt wB gp ende X w ts vo out) (hN : ts.length + out.length ≤ 5000) (hne : parseP ende (f + 1) .prim ts out ≠ .stop)
    (hfn : seesP ts 0 [40] = false → ∀ t r, ts = t :: r → t.k = 1 → (lookM functionsL t.t).getD 0 = 0) :
    Calls Tryz.prog 92 #[.pointer (some ⟨gp, 0, none⟩)] w (PPost wB gp ende X vo w (parseP ende (f + 1) .prim ts out)) := by
  have hf1 := field1
  have hf2 := field2
  go_enter Tryz.func92, Tryz.ntmps92
  go_wp2_with fail
  refine (sees_calls hP 0 ⟨#[40]⟩).mono ?_
  rintro e w1 ⟨rfl, rfl⟩
  cases hs : seesP ts 0 [40] with
  | true =>
    have hs' : seesP ts 0 (⟨#[40]⟩ : ByteArray).data.toList = true := hs
    have hpp : parseP ende (f + 1) .prim ts out = (parseP ende f (.lvl 1) ts.tail out).bind fun ts' out' a => if seesP ts' 0 [41] = true then .ok ts'.tail out' a else failP ende 5 ts' := by
      show (if seesP ts 0 [40] = true then _ else _) = _
      rw [if_pos hs]
    rw [hpp] at hne
    have HPP := Lib.hid hpp
    clear hpp
    have hlen : ts.tail.length ≤ ts.length := by rw [List.length_tail]; omega
    go_wp2_with fail
    refine (must_calls hP (by omega) ⟨#[40]⟩).mono ?_
    intro e w2 he
    unfold MustP at he
    rw [if_pos hs'] at he
    obtain ⟨rfl, hP2, hM2⟩ := he
    go_wp2_with fail
    refine ((IH f (Nat.le_refl _)).1 X 1 ts.tail vo out _ hP2 (by omega) (by omega) (by omega) (fun h => hne (by rw [h]; rfl))).mono ?_
    intro e w3 he
    cases hr : parseP ende f (.lvl 1) ts.tail out with
    | stop => exact absurd (by rw [hr]; rfl) hne
    | fail er a =>
      rw [hr] at he
      obtain ⟨rfl, hb⟩ := he
      exact ⟨rfl, by rw [HPP.out, hr]; exact ⟨rfl, hb⟩⟩
    | ok ts2 out2 i =>
      have hln := parse_len ende f _ _ _ _ _ _ hr
      rw [hr] at he hne
      obtain ⟨rfl, v3, hP3, hM3⟩ := he
      have HW := Lib.hid (HPP.out.trans (congrArg (fun r => PR.bind r _) hr))
      clear HPP
      go_wp2_with fail
      refine (must_calls hP3 (by omega) ⟨#[41]⟩).mono ?_
      intro e w4 he
      unfold MustP at he
      cases hs2 : seesP ts2 0 [41] with
      | true =>
        rw [if_pos (show seesP ts2 0 (⟨#[41]⟩ : ByteArray).data.toList = true from hs2)] at he
        obtain ⟨rfl, hP4, hM4⟩ := he
        go_wp2
        go_ret
        rw [HW.out]
        show PPost wB gp ende X vo w1 (if seesP ts2 0 [41] = true then _ else _) _ _
        rw [if_pos hs2]
        exact ⟨rfl, v3, hP4, (hM2.trans hM3).trans hM4⟩
      | false =>
        rw [if_neg (show ¬ seesP ts2 0 (⟨#[41]⟩ : ByteArray).data.toList = true from by rw [show seesP ts2 0 (⟨#[41]⟩ : ByteArray).data.toList = false from hs2]; decide)] at he
        obtain ⟨er, a, rfl, hfe, hpo⟩ := PPost_fail (w0 := w1) (vo' := vo) hP3 he
        refine ⟨rfl, ?_⟩
        rw [HW.out]
        show PPost wB gp ende X vo w1 (if seesP ts2 0 [41] = true then _ else _) _ _
        rw [if_neg (by rw [hs2]; decide)]
        exact hpo
  | false =>
    have hs' : seesP ts 0 (⟨#[40]⟩ : ByteArray).data.toList = false := hs
    obtain ⟨At, ct, hc, hC, hlc⟩ := hP.cell
    have c0 := (blk_cell hc 0).trans rfl
    cases ts with
    | nil =>
      have hpp : parseP ende (f + 1) .prim [] out = failP ende 5 [] := by
        rw [parseP.eq_def]
        simp [hs]
      have HPP := Lib.hid hpp
      clear hpp
      go_wp2_with fail
      refine (fail_calls hP 5).mono ?_
      intro e w2 he
      obtain ⟨er, a, rfl, hfe, hpo⟩ := PPost_fail (w0 := w1) (vo' := vo) hP he
      exact ⟨rfl, by rw [HPP.out]; exact hpo⟩
    | cons t r =>
      obtain ⟨ad, rfl, z0, z1, z2, z3⟩ := tok_first (x := t) (xs := r) hC (by simp)
      have k0 := (hP.below.cell (World.block_lt_of_cell? _ _ z0)).trans z0
      have k1 := (hP.below.cell (World.block_lt_of_cell? _ _ z1)).trans z1
      have k2 := (hP.below.cell (World.block_lt_of_cell? _ _ z2)).trans z2
      have k3 := (hP.below.cell (World.block_lt_of_cell? _ _ z3)).trans z3
      clear z0 z1 z2 z3
      have hl0 : ((r.length : Int) + 1 == 0) = false := beq_eq_false_iff_ne.2 (by omega)
      have hrl : r.length + 1 + out.length ≤ 5000 := by have : (t :: r).length = r.length + 1 := rfl; omega
      by_cases hk12 : t.k ≠ 2 ∧ t.k ≠ 1
      · have hpp : parseP ende (f + 1) .prim (t :: r) out = failP ende 5 (t :: r) := by
          rw [parseP.eq_def]
          simp only
          rw [if_neg (by rw [hs]; decide), if_pos hk12]
        have HPP := Lib.hid hpp
        clear hpp
        have hb2 : (t.k != 2) = true := bne_iff_ne.2 hk12.1
        have hb1 : (t.k != 1) = true := bne_iff_ne.2 hk12.2
        clear hk12
        go_wp2_with fail
        refine (fail_calls hP 5).mono ?_
        intro e w2 he
        obtain ⟨er, a, rfl, hfe, hpo⟩ := PPost_fail (w0 := w1) (vo' := vo) hP he
        exact ⟨rfl, by rw [HPP.out]; exact hpo⟩
      · have hpp : parseP ende (f + 1) .prim (t :: r) out = (if t.k = 2 ∧ 1000000 < t.n then failP ende 9 (t :: r)
            else if t.k = 2 then .ok r (out ++ [⟨1, t.n, ⟨#[]⟩, []⟩]) out.length
            else if (lookM functionsL t.t).getD 0 = 0 ∧ seesP (t :: r) 1 [40] = true then failP ende 7 (t :: r)
            else if (lookM functionsL t.t).getD 0 = 0 then .ok r (out ++ [⟨2, 0, ⟨t.t.toArray⟩, []⟩]) out.length
            else (argsP ende f (opsZ ((lookM functionsL t.t).getD 0)).toNat true r out []).bind fun ts' out' kids =>
              if seesP ts' 0 [41] = true then .ok ts'.tail (out' ++ [⟨(lookM functionsL t.t).getD 0, 0, ⟨#[]⟩, kids⟩]) out'.length else failP ende 5 ts') := by
          rw [parseP.eq_def]
          simp only
          rw [if_neg (by rw [hs]; decide), if_neg hk12]
        rw [hpp] at hne
        have HPP := Lib.hid hpp
        clear hpp
        by_cases hk2 : t.k = 2
        · have hb2 : (t.k != 2) = false := bne_eq_false_iff_eq.2 hk2
          have hb2' : (t.k == 2) = true := beq_iff_eq.2 hk2
          go_wp2_with fail
          have hG : (w1.alloc (.cells #[.int .i64 2, .string ⟨t.t.toArray⟩, .int .i64 t.n, .int .i64 t.a] 86)).heap[w1.heap.size]? = some (.cells #[.int .i64 2, .string ⟨t.t.toArray⟩, .int .i64 t.n, .int .i64 t.a] 86 (0, 0)) := blk_new w1 _
          have hBA : Below w1.heap.size w1 (w1.alloc (.cells #[.int .i64 2, .string ⟨t.t.toArray⟩, .int .i64 t.n, .int .i64 t.a] 86)) := below_alloc (Below.refl _ _) _
          generalize w1.alloc (.cells #[.int .i64 2, .string ⟨t.t.toArray⟩, .int .i64 t.n, .int .i64 t.a] 86) = wA at hG hBA ⊢
          have hPA := hP.next hBA
          clear c0 k0 k1 k2 k3 hc hC
          refine start_ (n := 5) (S := (fun w' => w'.cell? ⟨w1.heap.size, 1, none⟩ = some (.string ⟨t.t.toArray⟩))) (ds := []) #[false, false, false, false, false] (by kernel_rfl) rfl rfl ((blk_cell hG 1).trans rfl) (fun hHeld => ?_)
          refine pure_ (i := 1) (N := some 52) (v := ?_) (a' := ?_) #[false, true, false, false, false] rfl rfl (by kernel_rfl) (fun _ _ _ h => h) (Or.inl ⟨by rfl, ?_⟩) ?_ ?_
          rotate_left
          · intro w'
            go_simp
            with_reducible rfl
          rotate_left
          · simp only [Act.put, List.setIfInBounds_toArray, List.set_cons_zero, List.set_cons_succ, i64_w, i32_w]
            rfl
          refine take_ (i := 2) (N := some 53) (v := ?_) (a' := ?_) #[false, true, true, false, false] rfl rfl (by kernel_rfl) (fun _ _ _ h => h) (Or.inl ⟨by rfl, ?_⟩) hHeld ?_ ?_
          rotate_left
          · rintro w' s0
            go_simp
            with_reducible rfl
          rotate_left
          · simp only [Act.put, List.setIfInBounds_toArray, List.set_cons_zero, List.set_cons_succ, i64_w, i32_w]
            rfl
          refine one_ (i := 0) (N := some 51) #[true, true, true, false, false] rfl rfl (by kernel_rfl) (by decide) (fun K hK => ?_)
          refine goes_ Tryz.func79 (by kernel_rfl) rfl #[] (by rfl) rfl rfl (by simp) ?_
          refine (functions_calls wA.drew).mono ?_
          rintro e w4 ⟨rfl, hm4, hb4⟩
          have hB4 : Below wA.heap.size wA w4 := below_step (below_drew1 (Below.refl _ _)) hb4
          have hP4 := hPA.next hB4
          have hM4 := (PMove.below (gp := gp) (vo := vo) hBA).trans (PMove.below hB4)
          have hlook : (Instr.lookup 51 (.map (some wA.heap.size)) (.string ⟨t.t.toArray⟩) false).run Tryz.prog w4 = .ok (.int .i64 ((lookM functionsL t.t).getD 0)) w4 := hm4.look (P := Tryz.prog) Tryz.underlying51 Tryz.underlying9 (zero_int w4) ⟨t.t.toArray⟩
          have hG4 := blk_below hG hB4
          have n0 : w4.cell? ⟨w1.heap.size, 0, none⟩ = some (.int .i64 2) := (blk_cell hG4 0).trans rfl
          have n1 : w4.cell? ⟨w1.heap.size, 1, none⟩ = some (.string ⟨t.t.toArray⟩) := (blk_cell hG4 1).trans rfl
          have n2 : w4.cell? ⟨w1.heap.size, 2, none⟩ = some (.int .i64 t.n) := (blk_cell hG4 2).trans rfl
          refine ⟨_, rfl, ?_⟩
          refine hK.out _ _ n1 (fun hHeld => ?_)
          clear hK K
          refine norm_ (a' := ?_) ?_ ?_
          rotate_left
          · show Act.put _ (some 51) _ = _
            simp only [Act.put, List.setIfInBounds_toArray, List.set_cons_zero, List.set_cons_succ, i64_w, i32_w]
            rfl
          refine one_ (i := 3) (N := some 54) #[true, true, true, true, false] rfl rfl (by kernel_rfl) (by decide) (fun K hK => ?_)
          refine value_ (w1 := w4) (v := .int .i64 ((lookM functionsL t.t).getD 0)) (by rfl) rfl ?_ ?_
          · simp [execOp, Act.eval, hlook, Result.andThen]
          refine hK.out _ _ n1 (fun hHeld => ?_)
          clear hK K
          refine norm_ (a' := ?_) ?_ ?_
          rotate_left
          · show Act.put _ (some 54) _ = _
            simp only [Act.put, List.setIfInBounds_toArray, List.set_cons_zero, List.set_cons_succ, i64_w, i32_w]
            rfl
          refine pure_ (i := 4) (N := some 5) (v := ?_) (a' := ?_) #[true, true, true, true, true] rfl rfl (by kernel_rfl) (fun _ _ _ h => h) (Or.inl ⟨by rfl, ?_⟩) ?_ ?_
          rotate_left
          · intro w'
            go_simp
            with_reducible rfl
          rotate_left
          · simp only [Act.put, List.setIfInBounds_toArray, List.set_cons_zero, List.set_cons_succ, i64_w, i32_w]
            rfl
          refine done_ (by kernel_rfl) ?_
          clear hHeld hlook hm4 hG hBA hPA hB4 hb4
          by_cases hbig : 1000000 < t.n
          · have hbb : decide ((1000000 : Int) < t.n) = true := decide_eq_true hbig
            go_wp2_with fail
            refine (fail_calls hP4 9).mono ?_
            intro e w5 he
            obtain ⟨er, a, rfl, hfe, hpo⟩ := PPost_fail (w0 := w1) (vo' := vo) hP4 he
            refine ⟨rfl, ?_⟩
            rw [HPP.out, if_pos ⟨hk2, hbig⟩]
            exact hpo
          · have hbb : decide ((1000000 : Int) < t.n) = false := decide_eq_false hbig
            go_wp2_with fail
            refine (take_calls hP4 (by omega)).mono ?_
            rintro e w6 ⟨rfl, hP6, hM6⟩
            go_wp2_with fail
            refine (put_calls hP6 (by omega) ⟨1, t.n, ⟨#[]⟩, []⟩ (.slice none 0 0) (fun _ => False) (Kd.R_nil _ _ _ _ _) (fun _ h => h.elim)).mono ?_
            rintro e w7 ⟨rfl, v7, hP7, hM7⟩
            go_wp2
            go_ret
            rw [HPP.out, if_neg (fun h => by have := h.2; omega), if_pos hk2]
            exact ⟨rfl, v7, hP7, (hM4.trans hM6).trans hM7⟩
        · have hk1 : t.k = 1 := by
            rcases Classical.em (t.k = 1) with h | h
            · exact h
            · exact absurd ⟨hk2, h⟩ hk12
          have hb2 : (t.k != 2) = true := bne_iff_ne.2 hk2
          have hb1 : (t.k != 1) = false := bne_eq_false_iff_eq.2 hk1
          have hb2' : (t.k == 2) = false := beq_eq_false_iff_ne.2 hk2
          rw [if_neg (fun h => hk2 h.1), if_neg hk2] at hne
          have HQ := Lib.hid ((HPP.out.trans (if_neg (fun h => hk2 h.1))).trans (if_neg hk2))
          clear HPP hk12
          go_wp2_with fail
          have hG : (w1.alloc (.cells #[.int .i64 1, .string ⟨t.t.toArray⟩, .int .i64 t.n, .int .i64 t.a] 86)).heap[w1.heap.size]? = some (.cells #[.int .i64 1, .string ⟨t.t.toArray⟩, .int .i64 t.n, .int .i64 t.a] 86 (0, 0)) := blk_new w1 _
          have hBA : Below w1.heap.size w1 (w1.alloc (.cells #[.int .i64 1, .string ⟨t.t.toArray⟩, .int .i64 t.n, .int .i64 t.a] 86)) := below_alloc (Below.refl _ _) _
          generalize w1.alloc (.cells #[.int .i64 1, .string ⟨t.t.toArray⟩, .int .i64 t.n, .int .i64 t.a] 86) = wA at hG hBA ⊢
          have hPA := hP.next hBA
          clear c0 k0 k1 k2 k3 hc hC
          refine start_ (n := 5) (S := (fun w' => w'.cell? ⟨w1.heap.size, 1, none⟩ = some (.string ⟨t.t.toArray⟩))) (ds := []) #[false, false, false, false, false] (by kernel_rfl) rfl rfl ((blk_cell hG 1).trans rfl) (fun hHeld => ?_)
          refine pure_ (i := 1) (N := some 52) (v := ?_) (a' := ?_) #[false, true, false, false, false] rfl rfl (by kernel_rfl) (fun _ _ _ h => h) (Or.inl ⟨by rfl, ?_⟩) ?_ ?_
          rotate_left
          · intro w'
            go_simp
            with_reducible rfl
          rotate_left
          · simp only [Act.put, List.setIfInBounds_toArray, List.set_cons_zero, List.set_cons_succ, i64_w, i32_w]
            rfl
          refine take_ (i := 2) (N := some 53) (v := ?_) (a' := ?_) #[false, true, true, false, false] rfl rfl (by kernel_rfl) (fun _ _ _ h => h) (Or.inl ⟨by rfl, ?_⟩) hHeld ?_ ?_
          rotate_left
          · rintro w' s0
            go_simp
            with_reducible rfl
          rotate_left
          · simp only [Act.put, List.setIfInBounds_toArray, List.set_cons_zero, List.set_cons_succ, i64_w, i32_w]
            rfl
          refine one_ (i := 0) (N := some 51) #[true, true, true, false, false] rfl rfl (by kernel_rfl) (by decide) (fun K hK => ?_)
          refine goes_ Tryz.func79 (by kernel_rfl) rfl #[] (by rfl) rfl rfl (by simp) ?_
          refine (functions_calls wA.drew).mono ?_
          rintro e w4 ⟨rfl, hm4, hb4⟩
          have hB4 : Below wA.heap.size wA w4 := below_step (below_drew1 (Below.refl _ _)) hb4
          have hP4 := hPA.next hB4
          have hM4 := (PMove.below (gp := gp) (vo := vo) hBA).trans (PMove.below hB4)
          have hlook : (Instr.lookup 51 (.map (some wA.heap.size)) (.string ⟨t.t.toArray⟩) false).run Tryz.prog w4 = .ok (.int .i64 ((lookM functionsL t.t).getD 0)) w4 := hm4.look (P := Tryz.prog) Tryz.underlying51 Tryz.underlying9 (zero_int w4) ⟨t.t.toArray⟩
          have hG4 := blk_below hG hB4
          have n0 : w4.cell? ⟨w1.heap.size, 0, none⟩ = some (.int .i64 1) := (blk_cell hG4 0).trans rfl
          have n1 : w4.cell? ⟨w1.heap.size, 1, none⟩ = some (.string ⟨t.t.toArray⟩) := (blk_cell hG4 1).trans rfl
          have n2 : w4.cell? ⟨w1.heap.size, 2, none⟩ = some (.int .i64 t.n) := (blk_cell hG4 2).trans rfl
          refine ⟨_, rfl, ?_⟩
          refine hK.out _ _ n1 (fun hHeld => ?_)
          clear hK K
          refine norm_ (a' := ?_) ?_ ?_
          rotate_left
          · show Act.put _ (some 51) _ = _
            simp only [Act.put, List.setIfInBounds_toArray, List.set_cons_zero, List.set_cons_succ, i64_w, i32_w]
            rfl
          refine one_ (i := 3) (N := some 54) #[true, true, true, true, false] rfl rfl (by kernel_rfl) (by decide) (fun K hK => ?_)
          refine value_ (w1 := w4) (v := .int .i64 ((lookM functionsL t.t).getD 0)) (by rfl) rfl ?_ ?_
          · simp [execOp, Act.eval, hlook, Result.andThen]
          refine hK.out _ _ n1 (fun hHeld => ?_)
          clear hK K
          refine norm_ (a' := ?_) ?_ ?_
          rotate_left
          · show Act.put _ (some 54) _ = _
            simp only [Act.put, List.setIfInBounds_toArray, List.set_cons_zero, List.set_cons_succ, i64_w, i32_w]
            rfl
          refine pure_ (i := 4) (N := some 5) (v := ?_) (a' := ?_) #[true, true, true, true, true] rfl rfl (by kernel_rfl) (fun _ _ _ h => h) (Or.inl ⟨by rfl, ?_⟩) ?_ ?_
          rotate_left
          · intro w'
            go_simp
            with_reducible rfl
          rotate_left
          · simp only [Act.put, List.setIfInBounds_toArray, List.set_cons_zero, List.set_cons_succ, i64_w, i32_w]
            rfl
          refine done_ (by kernel_rfl) ?_
          clear hHeld hlook hm4 hG hBA hPA hB4 hb4
          generalize hopd : (lookM functionsL t.t).getD 0 = op at HQ hne ⊢
          by_cases hop : op = 0
          · have hopb : (op == 0) = true := beq_iff_eq.2 hop
            go_wp2_with fail
            refine (sees_calls hP4 1 ⟨#[40]⟩).mono ?_
            rintro e w5 ⟨rfl, rfl⟩
            cases hs1 : seesP (t :: r) 1 [40] with
            | true =>
              have hs1' : seesP (t :: r) 1 (⟨#[40]⟩ : ByteArray).data.toList = true := hs1
              go_wp2_with fail
              refine (fail_calls hP4 7).mono ?_
              intro e w6 he
              obtain ⟨er, a, rfl, hfe, hpo⟩ := PPost_fail (w0 := w1) (vo' := vo) hP4 he
              refine ⟨rfl, ?_⟩
              rw [HQ.out, if_pos ⟨hop, hs1⟩]
              exact hpo
            | false =>
              have hs1' : seesP (t :: r) 1 (⟨#[40]⟩ : ByteArray).data.toList = false := hs1
              go_wp2_with fail
              refine (take_calls hP4 (by omega)).mono ?_
              rintro e w6 ⟨rfl, hP6, hM6⟩
              go_wp2_with fail
              refine (put_calls hP6 (by omega) ⟨2, 0, ⟨t.t.toArray⟩, []⟩ (.slice none 0 0) (fun _ => False) (Kd.R_nil _ _ _ _ _) (fun _ h => h.elim)).mono ?_
              rintro e w7 ⟨rfl, v7, hP7, hM7⟩
              go_wp2
              go_ret
              rw [HQ.out, if_neg (fun h => by rw [hs1] at h; exact absurd h.2 (by decide)), if_pos hop]
              exact ⟨rfl, v7, hP7, (hM4.trans hM6).trans hM7⟩
          · exact absurd (hopd ▸ hfn hs t r rfl hk1) hop
end Go.Proofs.YtenecpmonodjaaaGreatDoor.PAll

/- The parser's primary at a function's name, walked by hand. -/
namespace Go.Proofs.YtenecpmonodjaaaGreatDoor.PAll
open Go.RowKit Go.Proofs.YtenecpmonodjaaaGreatDoorW.PrintWords Go.Proofs.YtenecpmonodjaaaGreatDoorW.PrintLast Go.Proofs.YtenecpmonodjaaaGreatDoorW.PrintMore
open Go.Proofs.YtenecpmonodjaaaGreatDoor.Obs
set_option linter.unusedVariables false
set_option linter.unusedSimpArgs false
set_option maxHeartbeats 8000000 in
set_option maxRecDepth 200000 in
theorem prim_call (wB : World) (gp : Nat) (ende : Int) (f : Nat) (IH : ∀ g, g ≤ f → LevelOk wB gp ende g ∧ PrimOk wB gp ende g) (X : Nat → Prop) (t : Tok) (r : List Tok) (vo : Value) (out : List S57) (w : World) (hP : PSt wB gp ende X w (t :: r) vo out) (hN : (t :: r).length + out.length ≤ 5000) (hne : parseP ende (f + 1) .prim (t :: r) out ≠ .stop)
    (hs : seesP (t :: r) 0 [40] = false) (hk1 : t.k = 1) (hop0 : (lookM functionsL t.t).getD 0 ≠ 0) :
    Calls Tryz.prog 92 #[.pointer (some ⟨gp, 0, none⟩)] w (PPost wB gp ende X vo w (parseP ende (f + 1) .prim (t :: r) out)) := by
  have hf1 := field1
  have hf2 := field2
  go_enter Tryz.func92, Tryz.ntmps92
  go_wp2_with fail
  refine (sees_calls hP 0 ⟨#[40]⟩).mono ?_
  rintro e w1 ⟨rfl, rfl⟩
  have hs' : seesP (t :: r) 0 (⟨#[40]⟩ : ByteArray).data.toList = false := hs
  obtain ⟨At, ct, hc, hC, hlc⟩ := hP.cell
  have c0 := (blk_cell hc 0).trans rfl
  have hk2 : ¬ t.k = 2 := by omega
  have hk12 : ¬ (t.k ≠ 2 ∧ t.k ≠ 1) := fun h => h.2 hk1
  obtain ⟨ad, rfl, z0, z1, z2, z3⟩ := tok_first (x := t) (xs := r) hC (by simp)
  have k0 := (hP.below.cell (World.block_lt_of_cell? _ _ z0)).trans z0
  have k1 := (hP.below.cell (World.block_lt_of_cell? _ _ z1)).trans z1
  have k2 := (hP.below.cell (World.block_lt_of_cell? _ _ z2)).trans z2
  have k3 := (hP.below.cell (World.block_lt_of_cell? _ _ z3)).trans z3
  clear z0 z1 z2 z3
  have hl0 : ((r.length : Int) + 1 == 0) = false := beq_eq_false_iff_ne.2 (by omega)
  have hrl : r.length + 1 + out.length ≤ 5000 := by have : (t :: r).length = r.length + 1 := rfl; omega
  have hpp : parseP ende (f + 1) .prim (t :: r) out = (if t.k = 2 ∧ 1000000 < t.n then failP ende 9 (t :: r)
      else if t.k = 2 then .ok r (out ++ [⟨1, t.n, ⟨#[]⟩, []⟩]) out.length
      else if (lookM functionsL t.t).getD 0 = 0 ∧ seesP (t :: r) 1 [40] = true then failP ende 7 (t :: r)
      else if (lookM functionsL t.t).getD 0 = 0 then .ok r (out ++ [⟨2, 0, ⟨t.t.toArray⟩, []⟩]) out.length
      else (argsP ende f (opsZ ((lookM functionsL t.t).getD 0)).toNat true r out []).bind fun ts' out' kids =>
        if seesP ts' 0 [41] = true then .ok ts'.tail (out' ++ [⟨(lookM functionsL t.t).getD 0, 0, ⟨#[]⟩, kids⟩]) out'.length else failP ende 5 ts') := by
    rw [parseP.eq_def]
    simp only
    rw [if_neg (by rw [hs]; decide), if_neg hk12]
  rw [hpp] at hne
  have HPP := Lib.hid hpp
  clear hpp
  have hb2 : (t.k != 2) = true := bne_iff_ne.2 hk2
  have hb1 : (t.k != 1) = false := bne_eq_false_iff_eq.2 hk1
  have hb2' : (t.k == 2) = false := beq_eq_false_iff_ne.2 hk2
  rw [if_neg (fun h => hk2 h.1), if_neg hk2] at hne
  have HQ := Lib.hid ((HPP.out.trans (if_neg (fun h => hk2 h.1))).trans (if_neg hk2))
  clear HPP hk12
  go_wp2_with fail
  have hG : (w1.alloc (.cells #[.int .i64 1, .string ⟨t.t.toArray⟩, .int .i64 t.n, .int .i64 t.a] 86)).heap[w1.heap.size]? = some (.cells #[.int .i64 1, .string ⟨t.t.toArray⟩, .int .i64 t.n, .int .i64 t.a] 86 (0, 0)) := blk_new w1 _
  have hBA : Below w1.heap.size w1 (w1.alloc (.cells #[.int .i64 1, .string ⟨t.t.toArray⟩, .int .i64 t.n, .int .i64 t.a] 86)) := below_alloc (Below.refl _ _) _
  generalize w1.alloc (.cells #[.int .i64 1, .string ⟨t.t.toArray⟩, .int .i64 t.n, .int .i64 t.a] 86) = wA at hG hBA ⊢
  have hPA := hP.next hBA
  clear c0 k0 k1 k2 k3 hc hC
  refine start_ (n := 5) (S := (fun w' => w'.cell? ⟨w1.heap.size, 1, none⟩ = some (.string ⟨t.t.toArray⟩))) (ds := []) #[false, false, false, false, false] (by kernel_rfl) rfl rfl ((blk_cell hG 1).trans rfl) (fun hHeld => ?_)
  refine pure_ (i := 1) (N := some 52) (v := ?_) (a' := ?_) #[false, true, false, false, false] rfl rfl (by kernel_rfl) (fun _ _ _ h => h) (Or.inl ⟨by rfl, ?_⟩) ?_ ?_
  rotate_left
  · intro w'
    go_simp
    with_reducible rfl
  rotate_left
  · simp only [Act.put, List.setIfInBounds_toArray, List.set_cons_zero, List.set_cons_succ, i64_w, i32_w]
    rfl
  refine take_ (i := 2) (N := some 53) (v := ?_) (a' := ?_) #[false, true, true, false, false] rfl rfl (by kernel_rfl) (fun _ _ _ h => h) (Or.inl ⟨by rfl, ?_⟩) hHeld ?_ ?_
  rotate_left
  · rintro w' s0
    go_simp
    with_reducible rfl
  rotate_left
  · simp only [Act.put, List.setIfInBounds_toArray, List.set_cons_zero, List.set_cons_succ, i64_w, i32_w]
    rfl
  refine one_ (i := 0) (N := some 51) #[true, true, true, false, false] rfl rfl (by kernel_rfl) (by decide) (fun K hK => ?_)
  refine goes_ Tryz.func79 (by kernel_rfl) rfl #[] (by rfl) rfl rfl (by simp) ?_
  refine (functions_calls wA.drew).mono ?_
  rintro e w4 ⟨rfl, hm4, hb4⟩
  have hB4 : Below wA.heap.size wA w4 := below_step (below_drew1 (Below.refl _ _)) hb4
  have hP4 := hPA.next hB4
  have hM4 := (PMove.below (gp := gp) (vo := vo) hBA).trans (PMove.below hB4)
  have hlook : (Instr.lookup 51 (.map (some wA.heap.size)) (.string ⟨t.t.toArray⟩) false).run Tryz.prog w4 = .ok (.int .i64 ((lookM functionsL t.t).getD 0)) w4 := hm4.look (P := Tryz.prog) Tryz.underlying51 Tryz.underlying9 (zero_int w4) ⟨t.t.toArray⟩
  have hG4 := blk_below hG hB4
  have n0 : w4.cell? ⟨w1.heap.size, 0, none⟩ = some (.int .i64 1) := (blk_cell hG4 0).trans rfl
  have n1 : w4.cell? ⟨w1.heap.size, 1, none⟩ = some (.string ⟨t.t.toArray⟩) := (blk_cell hG4 1).trans rfl
  have n2 : w4.cell? ⟨w1.heap.size, 2, none⟩ = some (.int .i64 t.n) := (blk_cell hG4 2).trans rfl
  refine ⟨_, rfl, ?_⟩
  refine hK.out _ _ n1 (fun hHeld => ?_)
  clear hK K
  refine norm_ (a' := ?_) ?_ ?_
  rotate_left
  · show Act.put _ (some 51) _ = _
    simp only [Act.put, List.setIfInBounds_toArray, List.set_cons_zero, List.set_cons_succ, i64_w, i32_w]
    rfl
  refine one_ (i := 3) (N := some 54) #[true, true, true, true, false] rfl rfl (by kernel_rfl) (by decide) (fun K hK => ?_)
  refine value_ (w1 := w4) (v := .int .i64 ((lookM functionsL t.t).getD 0)) (by rfl) rfl ?_ ?_
  · simp [execOp, Act.eval, hlook, Result.andThen]
  refine hK.out _ _ n1 (fun hHeld => ?_)
  clear hK K
  refine norm_ (a' := ?_) ?_ ?_
  rotate_left
  · show Act.put _ (some 54) _ = _
    simp only [Act.put, List.setIfInBounds_toArray, List.set_cons_zero, List.set_cons_succ, i64_w, i32_w]
    rfl
  refine pure_ (i := 4) (N := some 5) (v := ?_) (a' := ?_) #[true, true, true, true, true] rfl rfl (by kernel_rfl) (fun _ _ _ h => h) (Or.inl ⟨by rfl, ?_⟩) ?_ ?_
  rotate_left
  · intro w'
    go_simp
    with_reducible rfl
  rotate_left
  · simp only [Act.put, List.setIfInBounds_toArray, List.set_cons_zero, List.set_cons_succ, i64_w, i32_w]
    rfl
  refine done_ (by kernel_rfl) ?_
  clear hHeld hlook hm4 hG hBA hPA hB4 hb4
  generalize hopd : (lookM functionsL t.t).getD 0 = op at HQ hne ⊢
  have hop : ¬ op = 0 := hopd ▸ hop0
  have hopb : (op == 0) = false := beq_eq_false_iff_ne.2 hop
  rw [if_neg (fun h => hop h.1), if_neg hop] at hne
  have HR := Lib.hid ((HQ.out.trans (if_neg (fun h => hop h.1))).trans (if_neg hop))
  clear HQ
  go_wp2_with fail
  refine (take_calls hP4 (by omega)).mono ?_
  rintro e w6 ⟨rfl, hP6, hM6⟩
  have hM66 := hM4.trans hM6
  clear hP4 hM4 hM6 hG4 n0 n1 n2
  go_wp2_with fail
  have hB7 := below_alloc (Below.refl w6.heap.size w6) (.cells #[.int .i64 op, .int .i64 0, .string ⟨#[]⟩, .slice none 0 0] 57)
  have hK7 : (w6.alloc (.cells #[.int .i64 op, .int .i64 0, .string ⟨#[]⟩, .slice none 0 0] 57)).heap[w6.heap.size]? = some (.cells #[.int .i64 op, .int .i64 0, .string ⟨#[]⟩, .slice none 0 0] 57 (0, 0)) := blk_new w6 _
  generalize w6.alloc (.cells #[.int .i64 op, .int .i64 0, .string ⟨#[]⟩, .slice none 0 0] 57) = w7 at hB7 hK7 ⊢
  refine (operands_calls op w7).mono ?_
  rintro e w8 ⟨rfl, hb8⟩
  have hB8 := below_then hB7 hB7.size hb8
  have hPk := hP6.next hB8
  have hS0 : KSt wB gp ende X w6.heap.size op vo w1 w8 r vo out (.slice none 0 0) [] := ⟨⟨hPk.below, hPk.gpB, hPk.cell, Kd.R_mono (Kd.R_below (Kd.R_bound hP6.rows) hB8) (fun k hk => ⟨hk.1.1, fun hx => hx.elim hk.1.2 (fun hx => hx.elim (fun e => by have := hk.2.2.1; omega) (fun e => by simp [Value.ownBlock] at e))⟩), fun k hx => hx.elim (hPk.held k) (fun hx => hx.elim (fun e => by rw [e]; exact Nat.lt_of_lt_of_le (blk_lt hK7) hb8.size) (fun e => by simp [Value.ownBlock] at e))⟩, hM66.trans (PMove.below hB8), blk_below hK7 hb8, Kd.R_nil _ _ _ _ _, fun b h => by simp [Value.ownBlock] at h, hM66.1.size, hP6.below.size⟩
  have hop3 : opsZ op ≤ 3 := by unfold opsZ; (repeat' split) <;> omega
  clear hP6 hM66 hB7 hK7 hb8 hB8 hPk
  have hne0 := hne
  generalize hcont : (fun (ts' : List Tok) (out' : List S57) (kids : List Int) => if seesP ts' 0 [41] = true then PR.ok ts'.tail (out' ++ [⟨op, 0, ⟨#[]⟩, kids⟩]) out'.length else failP ende 5 ts') = cont at HR hne hne0
  go_wp2_with fail
  go_loopw [7, 100] (fun _ v100 wr => ∃ (k g : Nat) (ts2 : List Tok) (out2 : List S57) (kids : List Int) (v2 vk : Value), v100 = .int .i64 k ∧ k ≤ (opsZ op).toNat ∧ g ≤ f ∧ ts2.length + out2.length + 1 ≤ 5000 ∧ kids.length ≤ k ∧ argsP ende g ((opsZ op).toNat - k) (decide (k = 0)) ts2 out2 kids ≠ .stop ∧
    Aside0 (parseP ende (f + 1) .prim (t :: r) out = (argsP ende g ((opsZ op).toNat - k) (decide (k = 0)) ts2 out2 kids).bind cont) ∧ KSt wB gp ende X w6.heap.size op vo w1 wr ts2 v2 out2 vk kids) (fun _ v100 _ => (opsZ op).toNat - (intOf v100).toNat)
  case atStart => exact ⟨0, f, r, out, [], vo, .slice none 0 0, rfl, Nat.zero_le _, Nat.le_refl _, by omega, Nat.le_refl _, fun h => hne (by rw [show (argsP ende f (opsZ op).toNat true r out []) = .stop from h]; rfl), ⟨HR.out⟩, hS0⟩
  case round =>
    clear hS0 HR hne hne0
    obtain ⟨k, g, ts2, out2, kids, v2, vk, rfl, hkN, hg, hN2, hkl, hne2, HA, hS⟩ := hrel
    obtain ⟨g, rfl⟩ : ∃ g', g = g' + 1 := by
      cases g with
      | zero => exact absurd rfl hne2
      | succ g => exact ⟨g, rfl⟩
    by_cases hlt : (k : Int) < opsZ op
    · have hltb : decide ((k : Int) < opsZ op) = true := decide_eq_true hlt
      obtain ⟨nn, hnn⟩ : ∃ nn, (opsZ op).toNat - k = nn + 1 := ⟨(opsZ op).toNat - k - 1, by omega⟩
      have hnk : (opsZ op).toNat - (k + 1) = nn := by omega
      rw [hnn] at HA hne2
      by_cases hk0 : k = 0
      · subst hk0
        have hfl : seesP ts2 0 [40] = false → argsP ende (g + 1) (nn + 1) (decide ((0 : Nat) = 0)) ts2 out2 kids = AR.of (failP ende 5 ts2) := fun h => by
          show (if seesP ts2 0 [40] = true then _ else _) = _
          rw [if_neg (by rw [h]; decide)]
        have htr : seesP ts2 0 [40] = true → argsP ende (g + 1) (nn + 1) (decide ((0 : Nat) = 0)) ts2 out2 kids = (parseP ende g (.lvl 1) ts2.tail out2).bindA fun ts' out' i => argsP ende g nn false ts' out' (kids ++ [i]) := fun h => by
          show (if seesP ts2 0 [40] = true then _ else _) = _
          rw [if_pos h]
        go_wp2_with fail
        refine (must_calls hS.st (by omega) ⟨#[40]⟩).mono ?_
        intro e w7 he
        unfold MustP at he
        cases hsg : seesP ts2 0 [40] with
        | false =>
          rw [if_neg (show ¬ seesP ts2 0 (⟨#[40]⟩ : ByteArray).data.toList = true from by rw [show seesP ts2 0 (⟨#[40]⟩ : ByteArray).data.toList = false from hsg]; decide)] at he
          obtain ⟨er, a, rfl, hfe, hpo⟩ := PPost_fail (w0 := w1) (vo' := vo) hS.st he
          refine ⟨rfl, ?_⟩
          rw [HA.out, hfl hsg]
          rw [hfe] at hpo ⊢
          exact hpo
        | true =>
          rw [if_pos (show seesP ts2 0 (⟨#[40]⟩ : ByteArray).data.toList = true from hsg)] at he
          obtain ⟨rfl, hP7, hM7⟩ := he
          have hS7 := hS.level hP7 hM7
          have hlt7 := sees_len hsg
          rw [htr hsg] at hne2
          have HA7 := Lib.hid (HA.out.trans (congrArg (fun r => AR.bind r _) (htr hsg)))
          clear HA hfl htr hS hP7 hM7
          have c63 : w7.cell? ⟨w6.heap.size, 3, none⟩ = some vk := (blk_cell hS7.blk 3).trans rfl
          go_wp2_with fail
          refine start_ (n := 8) (S := (fun w' => w'.cell? ⟨w6.heap.size, 3, none⟩ = some vk)) (ds := [7]) #[false, false, false, false, false, false, false, false] (by kernel_rfl) rfl rfl c63 (fun hHeld => ?_)
          refine pure_ (i := 0) (N := some 109) (v := ?_) (a' := ?_) #[true, false, false, false, false, false, false, false] rfl rfl (by kernel_rfl) (fun _ _ _ h => h) (Or.inl ⟨by rfl, ?_⟩) ?_ ?_
          rotate_left
          · intro w'
            go_simp
            with_reducible rfl
          rotate_left
          · simp only [Act.put, List.setIfInBounds_toArray, List.set_cons_zero, List.set_cons_succ, i64_w, i32_w]
            rfl
          refine take_ (i := 1) (N := some 110) (v := ?_) (a' := ?_) #[true, true, false, false, false, false, false, false] rfl rfl (by kernel_rfl) (fun _ _ _ h => h) (Or.inl ⟨by rfl, ?_⟩) hHeld ?_ ?_
          rotate_left
          · rintro w' s0
            go_simp
            with_reducible rfl
          rotate_left
          · simp only [Act.put, List.setIfInBounds_toArray, List.set_cons_zero, List.set_cons_succ, i64_w, i32_w]
            rfl
          refine pure_ (i := 2) (N := some 111) (v := ?_) (a' := ?_) #[true, true, true, false, false, false, false, false] rfl rfl (by kernel_rfl) (fun _ _ _ h => h) (Or.inl ⟨by rfl, ?_⟩) ?_ ?_
          rotate_left
          · intro w'
            go_simp
            with_reducible rfl
          rotate_left
          · simp only [Act.put, List.setIfInBounds_toArray, List.set_cons_zero, List.set_cons_succ, i64_w, i32_w]
            rfl
          refine one_ (i := 3) (N := some 112) #[true, true, true, true, false, false, false, false] rfl rfl (by kernel_rfl) (by decide) (fun K hK => ?_)
          refine callP_ 66 #[.pointer (some ⟨gp, 0, none⟩), .int .i64 1] (by rfl) rfl ?_ ?_
          · unfold execOp
            simp [resolve, Deferred.ofValue, invoke, Act.eval, enters_ Tryz.func66 (by kernel_rfl) rfl]
          have hBd : Below w7.heap.size w7 w7.drew := below_drew1 (Below.refl _ _)
          have hS8 := hS7.level (hS7.st.next hBd) (PMove.below hBd)
          refine ((IH g (by omega)).1 (XX X w6.heap.size vk) 1 ts2.tail v2 out2 _ hS8.st (by omega) (by omega) (by omega) (fun h => hne2 (by rw [h]; rfl))).mono ?_
          intro e w8 he
          cases hr : parseP ende g (.lvl 1) ts2.tail out2 with
          | stop => exact absurd (by rw [hr]; rfl) hne2
          | fail er a =>
            rw [hr] at he
            obtain ⟨rfl, hb⟩ := he
            refine ⟨rfl, ?_⟩
            rw [HA7.out, hr]
            exact ⟨rfl, hb⟩
          | ok ts3 out3 i =>
            have hln := parse_len ende g _ _ _ _ _ _ hr
            rw [hr] at he hne2
            obtain ⟨rfl, v3, hP9, hM9⟩ := he
            have hS9 := hS8.level hP9 hM9
            have HA9 := Lib.hid (HA7.out.trans (congrArg (fun r => AR.bind (PR.bindA r _) _) hr))
            clear HA7 hP9 hM9 hS8 hBd
            refine hK.out _ _ ((blk_cell hS9.blk 3).trans rfl) (fun hHeld => ?_)
            clear hK K
            refine norm_ (a' := ?_) ?_ ?_
            rotate_left
            · show Act.put _ (some 112) _ = _
              simp only [Act.put, List.setIfInBounds_toArray, List.set_cons_zero, List.set_cons_succ, i64_w, i32_w]
              rfl
            refine one_ (i := 4) (N := some 113) #[true, true, true, true, true, false, false, false] rfl rfl (by kernel_rfl) (by decide) (fun K hK => ?_)
            refine value_ (w1 := ?_) (v := ?_) (by rfl) rfl ?_ ?_
            rotate_left 2
            · go_simp
              constructor
              · rfl
              · rfl
            refine hK.out _ _ ((blk_cell (blk_alloc hS9.blk _) 3).trans rfl) (fun hHeld => ?_)
            clear hK K
            refine norm_ (a' := ?_) ?_ ?_
            rotate_left
            · show Act.put _ (some 113) _ = _
              simp only [Act.put, List.setIfInBounds_toArray, List.set_cons_zero, List.set_cons_succ, i64_w, i32_w]
              rfl
            refine one_ (i := 5) (N := some 114) #[true, true, true, true, true, true, false, false] rfl rfl (by kernel_rfl) (by decide) (fun K hK => ?_)
            refine Kd.R_append_step (Kd.int .i64) (w0 := wB) wB.heap.size (by rfl) (.tmp 110) (.tmp 113) 54 3 (.int .i64 0) 8 rfl Tryz.underlying54 intInfo rfl (by decide) (by omega) vk kids i [.int .i64 i] (fun b => (b ≠ gp ∧ ¬ X b) ∧ b ≠ w6.heap.size ∧ some b ≠ v3.ownBlock) (fun _ => False) rfl rfl rfl (fun _ h => h.elim) ?aF hS9.kid hS9.st.below hS9.st.below.size (by omega) ?_
            (case aF => exact (fun k hk => ⟨⟨fun e => by obtain ⟨_, _, hc_, _, _⟩ := hS9.st.cell; have := blk_lt hc_; have : w8.heap.size ≤ k := hk; omega, fun hx => by have := hS9.st.held k (.inl hx); have : w8.heap.size ≤ k := hk; omega⟩, fun e => by have := blk_lt hS9.blk; have : w8.heap.size ≤ k := hk; omega, fun e => by have := Kd.R_lt hS9.st.rows k e.symm; have : w8.heap.size ≤ k := hk; omega⟩))
            intro v9 w9 ho hb9 hg9 hat9
            obtain ⟨A9, c9, rfl⟩ := Kd.R_slice ho
            rw [List.length_append, List.length_singleton] at ho hat9
            have hS10 := hS9.grow ho hb9 hg9 hat9
            have hg6k : some w6.heap.size ≠ vk.ownBlock := fun e => (hS9.kid.1 _ e.symm).2.1 rfl
            have hblk9 := blk_grown hS9.blk hg9 hg6k
            refine hK.out _ _ ((blk_cell hblk9 3).trans rfl) (fun hHeld => ?_)
            clear hK K
            refine norm_ (a' := ?_) ?_ ?_
            rotate_left
            · show Act.put _ (some 114) _ = _
              simp only [Act.put, List.setIfInBounds_toArray, List.set_cons_zero, List.set_cons_succ, i64_w, i32_w]
              rfl
            refine pure_ (i := 6) (N := some 115) (v := ?_) (a' := ?_) #[true, true, true, true, true, true, true, false] rfl rfl (by kernel_rfl) (fun _ _ _ h => h) (Or.inl ⟨by rfl, ?_⟩) ?_ ?_
            rotate_left
            · intro w'
              go_simp
              with_reducible rfl
            rotate_left
            · simp only [Act.put, List.setIfInBounds_toArray, List.set_cons_zero, List.set_cons_succ, i64_w, i32_w]
              rfl
            refine last_ (i := 7) (N := none) #[true, true, true, true, true, true, true, true] rfl rfl (by kernel_rfl) (by decide) (fun K hK => ?_)
            have hs9 : w9.cell? ⟨w6.heap.size, 3, none⟩ = some vk := (blk_cell hblk9 3).trans rfl
            have hfs9 := blk_frozen hblk9 3
            refine skip_ (w1 := ?_) (by rfl) rfl ?_ ?_
            rotate_left
            · go_simp
              rfl
            refine hK.out _ _ ?_
            clear hK K
            refine done_ (by kernel_rfl) ?_
            generalize w9.setCell ⟨w6.heap.size, 3, none⟩ (.slice A9 (kids.length + 1) c9) = w10 at hS10 ⊢
            clear hHeld hs9 hfs9 ho hb9 hg9 hat9 hblk9 hg6k hS9 c63
            have hwk : wrap64 (((0 : Nat) : Int) + 1) = ((0 : Nat) : Int) + 1 := by unfold wrap64; omega
            go_wp2_with fail
            go_roundw
            case rel => exact ⟨0 + 1, g, ts3, out3, kids ++ [i], v3, .slice A9 (kids ++ [i]).length c9, by go_num, by omega, by omega, by omega, by rw [List.length_append, List.length_singleton]; omega, by rw [hnk, decide_eq_false (by omega)]; exact hne2, ⟨by rw [hnk, decide_eq_false (by omega)]; exact HA9.out⟩, by rw [List.length_append, List.length_singleton]; exact hS10⟩
            case measure => simp [intOf]; omega
      · have hk0b : ((k : Int) == 0) = false := beq_eq_false_iff_ne.2 (by omega)
        have hdk : decide (k = 0) = false := decide_eq_false hk0
        rw [hdk] at HA hne2
        have hfl : seesP ts2 0 [44] = false → argsP ende (g + 1) (nn + 1) false ts2 out2 kids = AR.of (failP ende 5 ts2) := fun h => by
          show (if seesP ts2 0 [44] = true then _ else _) = _
          rw [if_neg (by rw [h]; decide)]
        have htr : seesP ts2 0 [44] = true → argsP ende (g + 1) (nn + 1) false ts2 out2 kids = (parseP ende g (.lvl 1) ts2.tail out2).bindA fun ts' out' i => argsP ende g nn false ts' out' (kids ++ [i]) := fun h => by
          show (if seesP ts2 0 [44] = true then _ else _) = _
          rw [if_pos h]
        go_wp2_with fail
        refine (must_calls hS.st (by omega) ⟨#[44]⟩).mono ?_
        intro e w7 he
        unfold MustP at he
        cases hsg : seesP ts2 0 [44] with
        | false =>
          rw [if_neg (show ¬ seesP ts2 0 (⟨#[44]⟩ : ByteArray).data.toList = true from by rw [show seesP ts2 0 (⟨#[44]⟩ : ByteArray).data.toList = false from hsg]; decide)] at he
          obtain ⟨er, a, rfl, hfe, hpo⟩ := PPost_fail (w0 := w1) (vo' := vo) hS.st he
          refine ⟨rfl, ?_⟩
          rw [HA.out, hfl hsg]
          rw [hfe] at hpo ⊢
          exact hpo
        | true =>
          rw [if_pos (show seesP ts2 0 (⟨#[44]⟩ : ByteArray).data.toList = true from hsg)] at he
          obtain ⟨rfl, hP7, hM7⟩ := he
          have hS7 := hS.level hP7 hM7
          have hlt7 := sees_len hsg
          rw [htr hsg] at hne2
          have HA7 := Lib.hid (HA.out.trans (congrArg (fun r => AR.bind r _) (htr hsg)))
          clear HA hfl htr hS hP7 hM7
          have c63 : w7.cell? ⟨w6.heap.size, 3, none⟩ = some vk := (blk_cell hS7.blk 3).trans rfl
          go_wp2_with fail
          refine start_ (n := 8) (S := (fun w' => w'.cell? ⟨w6.heap.size, 3, none⟩ = some vk)) (ds := [7]) #[false, false, false, false, false, false, false, false] (by kernel_rfl) rfl rfl c63 (fun hHeld => ?_)
          refine pure_ (i := 0) (N := some 109) (v := ?_) (a' := ?_) #[true, false, false, false, false, false, false, false] rfl rfl (by kernel_rfl) (fun _ _ _ h => h) (Or.inl ⟨by rfl, ?_⟩) ?_ ?_
          rotate_left
          · intro w'
            go_simp
            with_reducible rfl
          rotate_left
          · simp only [Act.put, List.setIfInBounds_toArray, List.set_cons_zero, List.set_cons_succ, i64_w, i32_w]
            rfl
          refine take_ (i := 1) (N := some 110) (v := ?_) (a' := ?_) #[true, true, false, false, false, false, false, false] rfl rfl (by kernel_rfl) (fun _ _ _ h => h) (Or.inl ⟨by rfl, ?_⟩) hHeld ?_ ?_
          rotate_left
          · rintro w' s0
            go_simp
            with_reducible rfl
          rotate_left
          · simp only [Act.put, List.setIfInBounds_toArray, List.set_cons_zero, List.set_cons_succ, i64_w, i32_w]
            rfl
          refine pure_ (i := 2) (N := some 111) (v := ?_) (a' := ?_) #[true, true, true, false, false, false, false, false] rfl rfl (by kernel_rfl) (fun _ _ _ h => h) (Or.inl ⟨by rfl, ?_⟩) ?_ ?_
          rotate_left
          · intro w'
            go_simp
            with_reducible rfl
          rotate_left
          · simp only [Act.put, List.setIfInBounds_toArray, List.set_cons_zero, List.set_cons_succ, i64_w, i32_w]
            rfl
          refine one_ (i := 3) (N := some 112) #[true, true, true, true, false, false, false, false] rfl rfl (by kernel_rfl) (by decide) (fun K hK => ?_)
          refine callP_ 66 #[.pointer (some ⟨gp, 0, none⟩), .int .i64 1] (by rfl) rfl ?_ ?_
          · unfold execOp
            simp [resolve, Deferred.ofValue, invoke, Act.eval, enters_ Tryz.func66 (by kernel_rfl) rfl]
          have hBd : Below w7.heap.size w7 w7.drew := below_drew1 (Below.refl _ _)
          have hS8 := hS7.level (hS7.st.next hBd) (PMove.below hBd)
          refine ((IH g (by omega)).1 (XX X w6.heap.size vk) 1 ts2.tail v2 out2 _ hS8.st (by omega) (by omega) (by omega) (fun h => hne2 (by rw [h]; rfl))).mono ?_
          intro e w8 he
          cases hr : parseP ende g (.lvl 1) ts2.tail out2 with
          | stop => exact absurd (by rw [hr]; rfl) hne2
          | fail er a =>
            rw [hr] at he
            obtain ⟨rfl, hb⟩ := he
            refine ⟨rfl, ?_⟩
            rw [HA7.out, hr]
            exact ⟨rfl, hb⟩
          | ok ts3 out3 i =>
            have hln := parse_len ende g _ _ _ _ _ _ hr
            rw [hr] at he hne2
            obtain ⟨rfl, v3, hP9, hM9⟩ := he
            have hS9 := hS8.level hP9 hM9
            have HA9 := Lib.hid (HA7.out.trans (congrArg (fun r => AR.bind (PR.bindA r _) _) hr))
            clear HA7 hP9 hM9 hS8 hBd
            refine hK.out _ _ ((blk_cell hS9.blk 3).trans rfl) (fun hHeld => ?_)
            clear hK K
            refine norm_ (a' := ?_) ?_ ?_
            rotate_left
            · show Act.put _ (some 112) _ = _
              simp only [Act.put, List.setIfInBounds_toArray, List.set_cons_zero, List.set_cons_succ, i64_w, i32_w]
              rfl
            refine one_ (i := 4) (N := some 113) #[true, true, true, true, true, false, false, false] rfl rfl (by kernel_rfl) (by decide) (fun K hK => ?_)
            refine value_ (w1 := ?_) (v := ?_) (by rfl) rfl ?_ ?_
            rotate_left 2
            · go_simp
              constructor
              · rfl
              · rfl
            refine hK.out _ _ ((blk_cell (blk_alloc hS9.blk _) 3).trans rfl) (fun hHeld => ?_)
            clear hK K
            refine norm_ (a' := ?_) ?_ ?_
            rotate_left
            · show Act.put _ (some 113) _ = _
              simp only [Act.put, List.setIfInBounds_toArray, List.set_cons_zero, List.set_cons_succ, i64_w, i32_w]
              rfl
            refine one_ (i := 5) (N := some 114) #[true, true, true, true, true, true, false, false] rfl rfl (by kernel_rfl) (by decide) (fun K hK => ?_)
            refine Kd.R_append_step (Kd.int .i64) (w0 := wB) wB.heap.size (by rfl) (.tmp 110) (.tmp 113) 54 3 (.int .i64 0) 8 rfl Tryz.underlying54 intInfo rfl (by decide) (by omega) vk kids i [.int .i64 i] (fun b => (b ≠ gp ∧ ¬ X b) ∧ b ≠ w6.heap.size ∧ some b ≠ v3.ownBlock) (fun _ => False) rfl rfl rfl (fun _ h => h.elim) ?aF hS9.kid hS9.st.below hS9.st.below.size (by omega) ?_
            (case aF => exact (fun k hk => ⟨⟨fun e => by obtain ⟨_, _, hc_, _, _⟩ := hS9.st.cell; have := blk_lt hc_; have : w8.heap.size ≤ k := hk; omega, fun hx => by have := hS9.st.held k (.inl hx); have : w8.heap.size ≤ k := hk; omega⟩, fun e => by have := blk_lt hS9.blk; have : w8.heap.size ≤ k := hk; omega, fun e => by have := Kd.R_lt hS9.st.rows k e.symm; have : w8.heap.size ≤ k := hk; omega⟩))
            intro v9 w9 ho hb9 hg9 hat9
            obtain ⟨A9, c9, rfl⟩ := Kd.R_slice ho
            rw [List.length_append, List.length_singleton] at ho hat9
            have hS10 := hS9.grow ho hb9 hg9 hat9
            have hg6k : some w6.heap.size ≠ vk.ownBlock := fun e => (hS9.kid.1 _ e.symm).2.1 rfl
            have hblk9 := blk_grown hS9.blk hg9 hg6k
            refine hK.out _ _ ((blk_cell hblk9 3).trans rfl) (fun hHeld => ?_)
            clear hK K
            refine norm_ (a' := ?_) ?_ ?_
            rotate_left
            · show Act.put _ (some 114) _ = _
              simp only [Act.put, List.setIfInBounds_toArray, List.set_cons_zero, List.set_cons_succ, i64_w, i32_w]
              rfl
            refine pure_ (i := 6) (N := some 115) (v := ?_) (a' := ?_) #[true, true, true, true, true, true, true, false] rfl rfl (by kernel_rfl) (fun _ _ _ h => h) (Or.inl ⟨by rfl, ?_⟩) ?_ ?_
            rotate_left
            · intro w'
              go_simp
              with_reducible rfl
            rotate_left
            · simp only [Act.put, List.setIfInBounds_toArray, List.set_cons_zero, List.set_cons_succ, i64_w, i32_w]
              rfl
            refine last_ (i := 7) (N := none) #[true, true, true, true, true, true, true, true] rfl rfl (by kernel_rfl) (by decide) (fun K hK => ?_)
            have hs9 : w9.cell? ⟨w6.heap.size, 3, none⟩ = some vk := (blk_cell hblk9 3).trans rfl
            have hfs9 := blk_frozen hblk9 3
            refine skip_ (w1 := ?_) (by rfl) rfl ?_ ?_
            rotate_left
            · go_simp
              rfl
            refine hK.out _ _ ?_
            clear hK K
            refine done_ (by kernel_rfl) ?_
            generalize w9.setCell ⟨w6.heap.size, 3, none⟩ (.slice A9 (kids.length + 1) c9) = w10 at hS10 ⊢
            clear hHeld hs9 hfs9 ho hb9 hg9 hat9 hblk9 hg6k hS9 c63
            have hk2 : (k : Int) ≤ 2 := by omega
            go_wp2_with fail
            go_roundw
            case rel => exact ⟨k + 1, g, ts3, out3, kids ++ [i], v3, .slice A9 (kids ++ [i]).length c9, by go_num, by omega, by omega, by omega, by rw [List.length_append, List.length_singleton]; omega, by rw [hnk, decide_eq_false (by omega)]; exact hne2, ⟨by rw [hnk, decide_eq_false (by omega)]; exact HA9.out⟩, by rw [List.length_append, List.length_singleton]; exact hS10⟩
            case measure => simp [intOf]; omega
    · have hltb : decide ((k : Int) < opsZ op) = false := decide_eq_false hlt
      rw [show (opsZ op).toNat - k = 0 by omega] at HA hne2
      have HA' : parseP ende (f + 1) .prim (t :: r) out = cont ts2 out2 kids := HA.out
      have HB := Lib.hid HA'
      clear HA HA'
      go_wp2_with fail
      refine (must_calls hS.st (by omega) ⟨#[41]⟩).mono ?_
      intro e w7 he
      unfold MustP at he
      cases hsg : seesP ts2 0 [41] with
      | false =>
        rw [if_neg (show ¬ seesP ts2 0 (⟨#[41]⟩ : ByteArray).data.toList = true from by rw [show seesP ts2 0 (⟨#[41]⟩ : ByteArray).data.toList = false from hsg]; decide)] at he
        obtain ⟨er, a, rfl, hfe, hpo⟩ := PPost_fail (w0 := w1) (vo' := vo) hS.st he
        refine ⟨rfl, ?_⟩
        rw [HB.out, ← hcont]
        show PPost wB gp ende X vo w1 (if seesP ts2 0 [41] = true then _ else _) _ _
        rw [if_neg (by rw [hsg]; decide), hfe]
        rw [hfe] at hpo
        exact hpo
      | true =>
        rw [if_pos (show seesP ts2 0 (⟨#[41]⟩ : ByteArray).data.toList = true from hsg)] at he
        obtain ⟨rfl, hP7, hM7⟩ := he
        have hS7 := hS.level hP7 hM7
        have hlt7 := sees_len hsg
        have q0 : w7.cell? ⟨w6.heap.size, 0, none⟩ = some (.int .i64 op) := (blk_cell hS7.blk 0).trans rfl
        have q1 : w7.cell? ⟨w6.heap.size, 1, none⟩ = some (.int .i64 0) := (blk_cell hS7.blk 1).trans rfl
        have q2 : w7.cell? ⟨w6.heap.size, 2, none⟩ = some (.string ⟨#[]⟩) := (blk_cell hS7.blk 2).trans rfl
        have q3 : w7.cell? ⟨w6.heap.size, 3, none⟩ = some vk := (blk_cell hS7.blk 3).trans rfl
        have hPX : PSt wB gp ende X w7 ts2.tail v2 out2 := ⟨hS7.st.below, hS7.st.gpB, hS7.st.cell, Kd.R_mono hS7.st.rows (fun k hk => ⟨hk.1, fun hx => hk.2 (.inl hx)⟩), fun k hk => hS7.st.held k (.inl hk)⟩
        obtain ⟨Ak, ck, hvk⟩ := Kd.R_slice hS7.kid
        subst hvk
        go_wp2_with fail
        refine (put_calls hPX (by omega) ⟨op, 0, ⟨#[]⟩, kids⟩ _ (fun b => (b ≠ gp ∧ ¬ X b) ∧ b ≠ w6.heap.size ∧ some b ≠ v2.ownBlock) hS7.kid (fun k hk => ⟨hk.1, hk.2.2⟩)).mono ?_
        rintro e w8 ⟨rfl, v8, hP8, hM8⟩
        go_wp2
        go_ret
        rw [HB.out, ← hcont]
        show PPost wB gp ende X vo w1 (if seesP ts2 0 [41] = true then _ else _) _ _
        rw [if_pos hsg]
        exact ⟨rfl, v8, hP8, hS7.mv.trans hM8⟩
end Go.Proofs.YtenecpmonodjaaaGreatDoor.PAll
