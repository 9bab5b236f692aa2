/- The parser's level, walked by hand, under the hypothesis of less rounds. -/
import Derived.Test.YtenecpmonodjaaaGreatDoorHPars
namespace Go.Proofs.YtenecpmonodjaaaGreatDoor.PAll
open Go.RowKit Go.Proofs.YtenecpmonodjaaaGreatDoorW.PrintWords Go.Proofs.YtenecpmonodjaaaGreatDoorW.PrintLast Go.Proofs.YtenecpmonodjaaaGreatDoorW.PrintMore
open Go.Proofs.YtenecpmonodjaaaGreatDoor.Obs
set_option linter.unusedVariables false
set_option linter.unusedSimpArgs false

def LevelOk (wB : World) (gp : Nat) (ende : Int) (f : Nat) : Prop :=
  ∀ (X : Nat → Prop) (least : Int) (ts : List Tok) (vo : Value) (out : List S57) (w : World), PSt wB gp ende X w ts vo out → 1 ≤ least → least ≤ 4 → ts.length + out.length ≤ 5000 → parseP ende f (.lvl least) ts out ≠ .stop →
    Calls Tryz.prog 66 #[.pointer (some ⟨gp, 0, none⟩), .int .i64 least] w (PPost wB gp ende X vo w (parseP ende f (.lvl least) ts out))
def PrimOk (wB : World) (gp : Nat) (ende : Int) (f : Nat) : Prop :=
  ∀ (X : Nat → Prop) (ts : List Tok) (vo : Value) (out : List S57) (w : World), PSt wB gp ende X w ts vo out → ts.length + out.length ≤ 5000 → parseP ende f .prim ts out ≠ .stop →
    Calls Tryz.prog 92 #[.pointer (some ⟨gp, 0, none⟩)] w (PPost wB gp ende X vo w (parseP ende f .prim ts out))

theorem kids_lit (W : World) (base : Nat) (xs : List Int) (hb : base ≤ W.heap.size) (hm : xs.length ≤ 1000) :
    (Kd.int .i64).R 3 (W.alloc (.cells (encs (Value.int .i64) xs).toArray 3)) base (fun k => k = W.heap.size) (.slice (some ⟨W.heap.size, 0, none⟩) xs.length xs.length) xs :=
  Kd.R_of_own (own_lit_of W base 3 xs hb (by omega)) (fun k hk => by simpa [Value.ownBlock] using hk.symm)

theorem PSt.fresh {wB w : World} {gp : Nat} {X : Nat → Prop} {ende : Int} {ts : List Tok} {vo : Value} {out : List S57} (h : PSt wB gp ende X w ts vo out) (k : Nat) (hk : w.heap.size ≤ k) : (k ≠ gp ∧ ¬ X k) ∧ some k ≠ vo.ownBlock := by
  obtain ⟨At, ct, hc, _, _⟩ := h.cell
  have := blk_lt hc
  exact ⟨⟨by omega, fun hx => by have := h.held k hx; omega⟩, fun e => by have := Kd.R_lt h.rows k e.symm; omega⟩
theorem post_move {wB : World} {gp : Nat} {X : Nat → Prop} {ende : Int} {vo vo' : Value} {w w' w'' : World} {r : PR} {e : Ending} (hm : PMove gp vo vo' w w') (h : PPost wB gp ende X vo' w' r e w'') : PPost wB gp ende X vo w r e w'' := by
  cases r with
  | stop => trivial
  | fail er a => exact h
  | ok ts out i => obtain ⟨h1, v2, h2, h3⟩ := h; exact ⟨h1, v2, h2, hm.trans h3⟩

/-- How many tokens are left, read off the world: the measure of the level's loop. -/
def tokLeft (w : World) (gp : Nat) : Nat := match w.cell? ⟨gp, 0, none⟩ with
  | some (.slice _ n _) => n
  | _ => 0
theorem PSt.left {wB w : World} {gp : Nat} {X : Nat → Prop} {ende : Int} {ts : List Tok} {vo : Value} {out : List S57} (h : PSt wB gp ende X w ts vo out) : tokLeft w gp = ts.length := by
  obtain ⟨At, ct, hc, _, _⟩ := h.cell
  have : w.cell? ⟨gp, 0, none⟩ = some (.slice At ts.length ct) := (blk_cell hc 0).trans rfl
  unfold tokLeft
  rw [this]
set_option maxHeartbeats 8000000 in
set_option maxRecDepth 100000 in
theorem level_walk (wB : World) (gp : Nat) (ende : Int) (f : Nat) (IH : ∀ g, g ≤ f → LevelOk wB gp ende g ∧ PrimOk wB gp ende g) : LevelOk wB gp ende (f + 1) := by
  intro X least ts vo out w hP h1 h4 hN hne
  go_enter Tryz.func66, Tryz.ntmps66
  by_cases hl : least = 4
  · subst hl
    go_wp2_with fail
    refine (sees_calls hP 0 ⟨#[45]⟩).mono ?_
    rintro e w1 ⟨rfl, rfl⟩
    cases hs : seesP ts 0 [45] with
    | false =>
      have hs' : seesP ts 0 (⟨#[45]⟩ : ByteArray).data.toList = false := hs
      have hpp : parseP ende (f + 1) (.lvl 4) ts out = parseP ende f .prim ts out := by
        show (if (4 : Int) = 4 then (if seesP ts 0 [45] = true then _ else _) else _) = _
        rw [if_pos rfl, if_neg (by rw [hs]; decide)]
      rw [hpp] at hne
      have HPP := Lib.hid hpp
      clear hpp
      go_wp2_with fail
      refine ((IH f (Nat.le_refl _)).2 X ts vo out _ hP hN hne).mono ?_
      intro e w2 he
      cases hr : parseP ende f .prim ts out with
      | stop => exact absurd hr hne
      | fail er a =>
        rw [hr] at he
        obtain ⟨rfl, hb⟩ := he
        exact ⟨rfl, by rw [HPP.out, hr]; exact ⟨rfl, hb⟩⟩
      | ok ts2 out2 i =>
        rw [hr] at he
        obtain ⟨rfl, v2, h2, h3⟩ := he
        go_wp2
        go_ret
        rw [HPP.out, hr]
        exact ⟨rfl, v2, h2, h3⟩
    | true =>
      have hs' : seesP ts 0 (⟨#[45]⟩ : ByteArray).data.toList = true := hs
      go_wp2_with fail
      refine (must_calls hP (by omega) ⟨#[45]⟩).mono ?_
      intro e w2 he
      unfold MustP at he
      rw [if_pos hs'] at he
      obtain ⟨rfl, hP2, hM2⟩ := he
      have hpp : parseP ende (f + 1) (.lvl 4) ts out = (parseP ende f (.lvl 4) ts.tail out).bind fun ts' out' i => .ok ts' (out' ++ [⟨12, 0, ⟨#[]⟩, [i]⟩]) out'.length := by
        show (if (4 : Int) = 4 then (if seesP ts 0 [45] = true then _ else _) else _) = _
        rw [if_pos rfl, if_pos hs]
      rw [hpp] at hne
      have HPP := Lib.hid hpp
      clear hpp
      have hlen : ts.tail.length ≤ ts.length := by rw [List.length_tail]; omega
      go_wp2_with fail
      refine ((IH f (Nat.le_refl _)).1 X 4 ts.tail vo out _ hP2 (by omega) (by omega) (by omega) (fun h => hne (by rw [h]; rfl))).mono ?_
      intro e w3 he
      cases hr : parseP ende f (.lvl 4) ts.tail out with
      | stop => exact absurd (by rw [hr]; rfl) hne
      | fail er a =>
        rw [hr] at he
        obtain ⟨rfl, hb⟩ := he
        exact ⟨rfl, by rw [HPP.out, hr]; exact ⟨rfl, hb⟩⟩
      | ok ts2 out2 i =>
        have hln := parse_len ende f _ _ _ _ _ _ hr
        rw [hr] at he
        obtain ⟨rfl, v3, hP3, hM3⟩ := he
        go_wp2_with fail
        have hB4 := below_alloc (Below.refl w3.heap.size w3) (.cells #[.int .i64 i] 3)
        refine (put_calls (hP3.next hB4) (by omega) ⟨12, 0, ⟨#[]⟩, [i]⟩ _ _ (kids_lit w3 _ [i] hP3.below.size (by simp)) (fun k hk => hP3.fresh k (Nat.le_of_eq hk.symm))).mono ?_
        rintro e w5 ⟨rfl, v5, hP5, hM5⟩
        go_wp2
        go_ret
        rw [HPP.out, hr]
        exact ⟨rfl, v5, hP5, (hM2.trans hM3).trans ((PMove.below hB4).trans hM5)⟩
  · have hlb : (least == 4) = false := beq_eq_false_iff_ne.2 hl
    have hpp : parseP ende (f + 1) (.lvl least) ts out = (parseP ende f (.lvl (least + 1)) ts out).bind fun ts' out' a => parseP ende f (.loop least a) ts' out' := by
      show (if least = 4 then _ else _) = _
      rw [if_neg hl]
    rw [hpp] at hne
    have HPP := Lib.hid hpp
    clear hpp
    have hw1 : wrap64 (least + 1) = least + 1 := by unfold wrap64; omega
    go_wp2_with fail
    refine ((IH f (Nat.le_refl _)).1 X (least + 1) ts vo out _ hP (by omega) (by omega) (by omega) (fun h => hne (by rw [h]; rfl))).mono ?_
    intro e w3 he
    cases hr : parseP ende f (.lvl (least + 1)) ts out with
    | stop => exact absurd (by rw [hr]; rfl) hne
    | fail er a =>
      rw [hr] at he
      obtain ⟨rfl, hb⟩ := he
      exact ⟨rfl, by rw [HPP.out, hr]; exact ⟨rfl, hb⟩⟩
    | ok ts2 out2 i =>
      have hln := parse_len ende f _ _ _ _ _ _ hr
      rw [hr] at he hne
      obtain ⟨rfl, v3, hP3, hM3⟩ := he
      have HQ := Lib.hid (HPP.out.trans (congrArg (fun r => PR.bind r _) hr))
      clear HPP hP
      go_wp2_with fail
      go_loopw [5, 6] (fun v5 v6 wr => ∃ (g : Nat) (ts2 : List Tok) (out2 : List S57) (a : Int) (v2 : Value), g ≤ f ∧ v5 = .int .i64 a ∧ ts2.length + out2.length ≤ 5000 ∧ parseP ende g (.loop least a) ts2 out2 ≠ .stop ∧
        Aside0 (parseP ende (f + 1) (.lvl least) ts out = parseP ende g (.loop least a) ts2 out2) ∧ PSt wB gp ende X wr ts2 v2 out2 ∧ PMove gp vo v2 w wr) (fun v5 v6 wr => tokLeft wr gp)
      case atStart => exact ⟨f, ts2, out2, i, v3, Nat.le_refl _, rfl, by omega, hne, ⟨HQ.out⟩, hP3, hM3⟩
      case round =>
        clear hP3 hM3 hne HQ hln hr
        obtain ⟨g, ts2, out2, a, v2, hg, rfl, hN2, hne2, HR, hP2, hM2⟩ := hrel
        obtain ⟨g, rfl⟩ : ∃ g', g = g' + 1 := by
          cases g with
          | zero => exact absurd rfl hne2
          | succ g => exact ⟨g, rfl⟩
        obtain ⟨At, ct, hc, hC, hlc⟩ := hP2.cell
        have hml := hP2.left
        have c0 := (blk_cell hc 0).trans rfl
        have hgB := hP2.gpB
        cases ts2 with
        | nil =>
          go_wp2
          go_ret
          rw [HR.out]
          exact ⟨rfl, v2, hP2, hM2⟩
        | cons t r =>
          obtain ⟨ad, rfl, z0, z1, z2, z3⟩ := tok_first (x := t) (xs := r) hC (by simp)
          have k0 := (hP2.below.cell (World.block_lt_of_cell? _ _ z0)).trans z0
          have k1 := (hP2.below.cell (World.block_lt_of_cell? _ _ z1)).trans z1
          have hlt0 := World.block_lt_of_cell? _ _ z0
          clear z0 z1 z2 z3 hC
          have hgt0 : decide ((0 : Int) < (r.length : Int) + 1) = true := decide_eq_true (by omega)
          by_cases hk : t.k = 4
          · have hun : parseP ende (g + 1) (.loop least a) (t :: r) out2 = (if (lookM infixL t.t).getD 0 = 0 ∨ strengthZ ((lookM infixL t.t).getD 0) ≠ least then .ok (t :: r) out2 a else
                (parseP ende g (.lvl (least + 1)) r out2).bind fun ts' out' b =>
                  if least = 1 then .ok ts' (out' ++ [⟨(lookM infixL t.t).getD 0, 0, ⟨#[]⟩, [a, b]⟩]) out'.length
                  else parseP ende g (.loop least out'.length) ts' (out' ++ [⟨(lookM infixL t.t).getD 0, 0, ⟨#[]⟩, [a, b]⟩])) := by
              show (if t.k = 4 then _ else _) = _
              rw [if_pos hk]
            rw [hun] at hne2
            have HU := Lib.hid (HR.out.trans hun)
            clear hun HR
            go_wp2_with fail
            refine start_ (n := 10) (S := (fun w' => w'.cell? ⟨gp, 0, none⟩ = some (.slice (some ad) (r.length + 1) ct) ∧ w'.cell? ⟨ad.block, ad.off + 1, none⟩ = some (.string ⟨t.t.toArray⟩))) (ds := []) #[false, false, false, false, false, false, false, false, false, false] (by kernel_rfl) rfl rfl ⟨c0, k1⟩ (fun hHeld => ?_)
            refine pure_ (i := 1) (N := some 43) (v := ?_) (a' := ?_) #[false, true, false, false, false, false, false, false, false, false] rfl rfl (by kernel_rfl) (fun _ _ _ h => h) (Or.inl ⟨by rfl, ?_⟩) ?_ ?_
            rotate_left
            · intro w'
              go_simp
              with_reducible rfl
            rotate_left
            · simp only [Act.put, List.setIfInBounds_toArray, List.set_cons_zero, List.set_cons_succ, i64_w, i32_w]
              rfl
            refine pure_ (i := 2) (N := some 44) (v := ?_) (a' := ?_) #[false, true, true, false, false, false, false, false, false, false] rfl rfl (by kernel_rfl) (fun _ _ _ h => h) (Or.inl ⟨by rfl, ?_⟩) ?_ ?_
            rotate_left
            · intro w'
              go_simp
              with_reducible rfl
            rotate_left
            · simp only [Act.put, List.setIfInBounds_toArray, List.set_cons_zero, List.set_cons_succ, i64_w, i32_w]
              rfl
            refine pure_ (i := 3) (N := some 45) (v := ?_) (a' := ?_) #[false, true, true, true, false, false, false, false, false, false] rfl rfl (by kernel_rfl) (fun _ _ _ h => h) (Or.inl ⟨by rfl, ?_⟩) ?_ ?_
            rotate_left
            · intro w'
              go_simp
              with_reducible rfl
            rotate_left
            · simp only [Act.put, List.setIfInBounds_toArray, List.set_cons_zero, List.set_cons_succ, i64_w, i32_w]
              rfl
            refine take_ (i := 4) (N := some 46) (v := ?_) (a' := ?_) #[false, true, true, true, true, false, false, false, false, false] rfl rfl (by kernel_rfl) (fun _ _ _ h => h) (Or.inl ⟨by rfl, ?_⟩) hHeld ?_ ?_
            rotate_left
            · rintro w' ⟨s0, s1⟩
              go_simp
              with_reducible rfl
            rotate_left
            · simp only [Act.put, List.setIfInBounds_toArray, List.set_cons_zero, List.set_cons_succ, i64_w, i32_w]
              rfl
            refine pure_ (i := 5) (N := some 47) (v := ?_) (a' := ?_) #[false, true, true, true, true, true, false, false, false, false] rfl rfl (by kernel_rfl) (fun _ _ _ h => h) (Or.inl ⟨by rfl, ?_⟩) ?_ ?_
            rotate_left
            · intro w'
              go_simp
              with_reducible rfl
            rotate_left
            · simp only [Act.put, List.setIfInBounds_toArray, List.set_cons_zero, List.set_cons_succ, i64_w, i32_w]
              rfl
            refine pure_ (i := 6) (N := some 48) (v := ?_) (a' := ?_) #[false, true, true, true, true, true, true, false, false, false] rfl rfl (by kernel_rfl) (fun _ _ _ h => h) (Or.inl ⟨by rfl, ?_⟩) ?_ ?_
            rotate_left
            · intro w'
              go_simp
              with_reducible rfl
            rotate_left
            · simp only [Act.put, List.setIfInBounds_toArray, List.set_cons_zero, List.set_cons_succ, i64_w, i32_w]
              rfl
            refine take_ (i := 7) (N := some 49) (v := ?_) (a' := ?_) #[false, true, true, true, true, true, true, true, false, false] rfl rfl (by kernel_rfl) (fun _ _ _ h => h) (Or.inl ⟨by rfl, ?_⟩) hHeld ?_ ?_
            rotate_left
            · rintro w' ⟨s0, s1⟩
              go_simp
              with_reducible rfl
            rotate_left
            · simp only [Act.put, List.setIfInBounds_toArray, List.set_cons_zero, List.set_cons_succ, i64_w, i32_w]
              rfl
            refine one_ (i := 0) (N := some 42) #[true, true, true, true, true, true, true, true, false, false] rfl rfl (by kernel_rfl) (by decide) (fun K hK => ?_)
            refine goes_ Tryz.func78 (by kernel_rfl) rfl #[] (by rfl) rfl rfl (by simp) ?_
            refine (infix_calls wr.drew).mono ?_
            rintro e w4 ⟨rfl, hm4, hb4⟩
            have hB4 : Below wr.heap.size wr w4 := below_step (below_drew1 (Below.refl _ _)) hb4
            have hP4 := hP2.next hB4
            have hM4 := hM2.trans (PMove.below hB4)
            have hlook : (Instr.lookup 51 (.map (some wr.heap.size)) (.string ⟨t.t.toArray⟩) false).run Tryz.prog w4 = .ok (.int .i64 ((lookM infixL t.t).getD 0)) w4 := hm4.look (P := Tryz.prog) Tryz.underlying51 Tryz.underlying9 (zero_int w4) ⟨t.t.toArray⟩
            have c04 := (blk_cell (blk_below hc hB4) 0).trans rfl
            have k14 := (hB4.cell (World.block_lt_of_cell? _ _ k1)).trans k1
            clear c0 k0 k1 hc hP2 hM2
            refine ⟨_, rfl, ?_⟩
            refine hK.out _ _ ⟨c04, k14⟩ (fun hHeld => ?_)
            clear hK K
            refine norm_ (a' := ?_) ?_ ?_
            rotate_left
            · show Act.put _ (some 42) _ = _
              simp only [Act.put, List.setIfInBounds_toArray, List.set_cons_zero, List.set_cons_succ, i64_w, i32_w]
              rfl
            refine one_ (i := 8) (N := some 50) #[true, true, true, true, true, true, true, true, true, false] rfl rfl (by kernel_rfl) (by decide) (fun K hK => ?_)
            refine value_ (w1 := w4) (v := .int .i64 ((lookM infixL t.t).getD 0)) (by rfl) rfl ?_ ?_
            · simp [execOp, Act.eval, hlook, Result.andThen]
            refine hK.out _ _ ⟨c04, k14⟩ (fun hHeld => ?_)
            clear hK K
            refine norm_ (a' := ?_) ?_ ?_
            rotate_left
            · show Act.put _ (some 50) _ = _
              simp only [Act.put, List.setIfInBounds_toArray, List.set_cons_zero, List.set_cons_succ, i64_w, i32_w]
              rfl
            refine pure_ (i := 9) (N := some 6) (v := ?_) (a' := ?_) #[true, true, true, true, true, true, true, true, true, true] rfl rfl (by kernel_rfl) (fun _ _ _ h => h) (Or.inl ⟨by rfl, ?_⟩) ?_ ?_
            rotate_left
            · intro w'
              go_simp
              with_reducible rfl
            rotate_left
            · simp only [Act.put, List.setIfInBounds_toArray, List.set_cons_zero, List.set_cons_succ, i64_w, i32_w]
              rfl
            refine done_ (by kernel_rfl) ?_
            clear hHeld hlook hm4
            generalize (lookM infixL t.t).getD 0 = op at HU hne2 ⊢
            by_cases hop : op = 0
            · have hopb : (op == 0) = true := beq_iff_eq.2 hop
              go_wp2
              go_ret
              rw [HU.out, if_pos (.inl hop)]
              exact ⟨rfl, v2, hP4, hM4⟩
            · have hopb : (op == 0) = false := beq_eq_false_iff_ne.2 hop
              go_wp2_with fail
              refine (strength_calls op _).mono ?_
              rintro e w5 ⟨rfl, rfl⟩
              by_cases hst : strengthZ op = least
              · have hstb : (strengthZ op != least) = false := bne_eq_false_iff_eq.2 hst
                rw [if_neg (fun h => h.elim hop (fun h => h hst))] at hne2
                have HV := Lib.hid (HU.out.trans (if_neg (fun h => h.elim hop (fun h => h hst))))
                clear HU
                have hrl : r.length + 1 ≤ 5000 := by have : (t :: r).length = r.length + 1 := rfl; omega
                have hN3 : r.length + 1 + out2.length ≤ 5000 := by have : (t :: r).length = r.length + 1 := rfl; omega
                go_wp2_with fail
                refine (take_calls hP4 (by omega)).mono ?_
                rintro e w6 ⟨rfl, hP6, hM6⟩
                go_wp2_with fail
                refine ((IH g (by omega)).1 X (least + 1) r v2 out2 _ hP6 (by omega) (by omega) (by omega) (fun h => hne2 (by rw [h]; rfl))).mono ?_
                intro e w7 he
                cases hr : parseP ende g (.lvl (least + 1)) r out2 with
                | stop => exact absurd (by rw [hr]; rfl) hne2
                | fail er a =>
                  rw [hr] at he
                  obtain ⟨rfl, hb⟩ := he
                  exact ⟨rfl, by rw [HV.out, hr]; exact ⟨rfl, hb⟩⟩
                | ok ts3 out3 b =>
                  have hln := parse_len ende g _ _ _ _ _ _ hr
                  rw [hr] at he hne2
                  obtain ⟨rfl, v7, hP7, hM7⟩ := he
                  have HW := Lib.hid (HV.out.trans (congrArg (fun r => PR.bind r _) hr))
                  clear HV
                  go_wp2_with fail
                  have hB8 := below_alloc (Below.refl w7.heap.size w7) (.cells #[.int .i64 a, .int .i64 b] 3)
                  refine (put_calls (hP7.next hB8) (by omega) ⟨op, 0, ⟨#[]⟩, [a, b]⟩ _ _ (kids_lit w7 _ [a, b] hP7.below.size (by simp)) (fun k hk => hP7.fresh k (Nat.le_of_eq hk.symm))).mono ?_
                  rintro e w9 ⟨rfl, v9, hP9, hM9⟩
                  have hM10 := ((hM4.trans hM6).trans hM7).trans ((PMove.below hB8).trans hM9)
                  by_cases hl1 : least = 1
                  · have hlb1 : (least == 1) = true := beq_iff_eq.2 hl1
                    go_wp2
                    go_ret
                    rw [HW.out]
                    show PPost wB gp ende X vo w (if least = 1 then _ else _) _ _
                    rw [if_pos hl1]
                    exact ⟨rfl, v9, hP9, hM10⟩
                  · have hlb1 : (least == 1) = false := beq_eq_false_iff_ne.2 hl1
                    have hW2 := HW.out
                    have hne3 : PR.bind (.ok ts3 out3 b) (fun ts' out' b => if least = 1 then .ok ts' (out' ++ [⟨op, 0, ⟨#[]⟩, [a, b]⟩]) out'.length else parseP ende g (.loop least out'.length) ts' (out' ++ [⟨op, 0, ⟨#[]⟩, [a, b]⟩])) = parseP ende g (.loop least out3.length) ts3 (out3 ++ [⟨op, 0, ⟨#[]⟩, [a, b]⟩]) := if_neg hl1
                    rw [hne3] at hne2
                    have HX := hW2.trans hne3
                    go_wp2_with fail
                    go_roundw
                    case rel => exact ⟨g, ts3, out3 ++ [⟨op, 0, ⟨#[]⟩, [a, b]⟩], out3.length, v9, by omega, rfl, by simp; omega, hne2, ⟨HX⟩, hP9, hM10⟩
                    case measure => rw [hP9.left, hml, List.length_cons]; omega
              · have hstb : (strengthZ op != least) = true := bne_iff_ne.2 hst
                go_wp2
                go_ret
                rw [HU.out, if_pos (.inr hst)]
                exact ⟨rfl, v2, hP4, hM4⟩
          · have hkb : (t.k == 4) = false := beq_eq_false_iff_ne.2 hk
            have hun : parseP ende (g + 1) (.loop least a) (t :: r) out2 = .ok (t :: r) out2 a := by
              show (if t.k = 4 then _ else _) = _
              rw [if_neg hk]
            go_wp2
            go_ret
            rw [HR.out, hun]
            exact ⟨rfl, v2, hP2, hM2⟩
end Go.Proofs.YtenecpmonodjaaaGreatDoor.PAll
