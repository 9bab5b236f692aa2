/- expr.Parse's deferred closure, walked by hand. -/
import Derived.Test.YtenecpmonodjaaaGreatDoorBase
import Derived.WalkKit
import Derived.Test.YtenecpmonodjaaaGreatDoorHLevel
import Derived.Test.YtenecpmonodjaaaGreatDoorHPars
import Derived.Test.YtenecpmonodjaaaGreatDoorHLexer
import Derived.Test.YtenecpmonodjaaaGreatDoorHPrim
namespace Go.Proofs.YtenecpmonodjaaaGreatDoor.PAll
open Go.RowKit Go.Proofs.YtenecpmonodjaaaGreatDoorW.PrintWords Go.Proofs.YtenecpmonodjaaaGreatDoorW.PrintLast Go.Proofs.YtenecpmonodjaaaGreatDoorW.PrintMore
set_option linter.unusedVariables false
set_option linter.unusedSimpArgs false

/-- The three result variables. -/
structure Res3 (w : World) (g : Nat) (v : Value) (e a : Int) : Prop where
  c0 : w.heap[g]? = some (.cells #[v] 23 (0, 0))
  c1 : w.heap[g + 1]? = some (.cells #[.int .i64 e] 27 (0, 0))
  c2 : w.heap[g + 1 + 1]? = some (.cells #[.int .i64 a] 3 (0, 0))
def R3 (g : Nat) : Nat → Prop := fun k => k = g ∨ k = g + 1 ∨ k = g + 1 + 1
theorem Res3.fr {w w' : World} {g : Nat} {v : Value} {e a : Int} {S : Nat → Prop} (h : Res3 w g v e a) (hf : Fr S w w') (h0 : ¬ S g) (h1 : ¬ S (g + 1)) (h2 : ¬ S (g + 1 + 1)) : Res3 w' g v e a :=
  ⟨hf.blk h.c0 h0, hf.blk h.c1 h1, hf.blk h.c2 h2⟩

def CatchP (g : Nat) (e a : Int) (older : List PanicEntry) (w : World) (en : Ending) (u' : FrameMode) (w' : World) : Prop :=
  en = .returned (.tuple #[]) ∧ u' = .panicking ({ v := .iface 94 (.agg #[.int .i64 e, .int .i64 a]), recovered := true } :: older) ∧ Res3 w' g (.slice none 0 0) e a ∧ Fr (R3 g) w w'
def IdleP (w : World) (en : Ending) (u' : FrameMode) (w' : World) : Prop := en = .returned (.tuple #[]) ∧ u' = .returning ∧ Below w.heap.size w w'

set_option maxHeartbeats 1000000 in
set_option maxRecDepth 100000 in
theorem parse1_catch (g : Nat) (v : Value) (e0 a0 e a : Int) (older : List PanicEntry) (w : World) (hR : Res3 w g v e0 a0) :
    CallsD Tryz.prog 65 #[.pointer (some ⟨g, 0, none⟩), .pointer (some ⟨g + 1, 0, none⟩), .pointer (some ⟨g + 1 + 1, 0, none⟩)] (.panicking ({ v := .iface 94 (.agg #[.int .i64 e, .int .i64 a]), recovered := false } :: older)) w (CatchP g e a older w) := by
  have hta : ∀ w : World, (Instr.typeAssert (.iface 94 (.agg #[.int .i64 e, .int .i64 a])) 20 94 true).run Tryz.prog w = .ok (.tuple #[.agg #[.int .i64 e, .int .i64 a], .bool true]) w := fun _ => by kernel_rfl
  refine callsD_of_wpS Tryz.func65 rfl fun c₀ cs hu => ?_
  apply wpS_seq
  apply wpS_region
  simp [wpOpsS, go_sem, recoverD, hu, Tryz.ntmps65, Exit.thenS, hta]
  apply wpS_seq
  apply wpS_region
  simp [wpOpsS, go_sem, Exit.thenS]
  refine wpS_cond (t := true) (by simp [Act.eval, Array.replicate]) ?_
  simp only [if_true]
  refine wpS_of_wp ?_
  simp only [show Array.replicate 12 undef = #[undef, undef, undef, undef, undef, undef, undef, undef, undef, undef, undef, undef] from rfl, List.setIfInBounds_toArray, List.set_cons_zero, List.set_cons_succ, List.append_toArray, List.cons_append, List.nil_append]
  have hlg : g < w.heap.size := blk_lt hR.c0
  have hlg1 : g + 1 < w.heap.size := blk_lt hR.c1
  have hlg2 : g + 1 + 1 < w.heap.size := blk_lt hR.c2
  have hB : Below w.heap.size w (w.alloc (Obj.cells #[Value.int IntKind.i64 e, Value.int IntKind.i64 a] 94)) := below_alloc (Below.refl _ _) _
  have hG : (w.alloc (Obj.cells #[Value.int IntKind.i64 e, Value.int IntKind.i64 a] 94)).heap[w.heap.size]? = some (.cells #[Value.int IntKind.i64 e, Value.int IntKind.i64 a] 94 (0, 0)) := blk_new w _
  have hF : Fr (R3 g) w (w.alloc (Obj.cells #[Value.int IntKind.i64 e, Value.int IntKind.i64 a] 94)) := (Fr.refl _ _).alloc _
  generalize w.alloc (Obj.cells #[Value.int IntKind.i64 e, Value.int IntKind.i64 a] 94) = wA at hG hF hB ⊢
  refine start_ (n := 7) (S := (fun w' => w'.cell? ⟨w.heap.size, 0, none⟩ = some (.int .i64 e) ∧ w'.cell? ⟨w.heap.size, 1, none⟩ = some (.int .i64 a))) (ds := []) #[false, false, false, false, false, false, false] (by kernel_rfl) rfl rfl ⟨(blk_cell hG 0).trans rfl, (blk_cell hG 1).trans rfl⟩ (fun hHeld => ?_)
  refine pure_ (i := 0) (N := some 11) (v := ?_) (a' := ?_) #[true, false, false, false, false, false, false] rfl rfl (by kernel_rfl) (fun _ _ _ h => h) (Or.inl ⟨by rfl, ?_⟩) ?_ ?_
  rotate_left
  · intro w'
    go_simp
    with_reducible rfl
  rotate_left
  · simp only [Act.put, List.setIfInBounds_toArray, List.set_cons_zero, List.set_cons_succ, i64_w, i32_w]
    rfl
  refine take_ (i := 1) (N := some 12) (v := ?_) (a' := ?_) #[true, true, false, false, false, false, false] rfl rfl (by kernel_rfl) (fun _ _ _ h => h) (Or.inl ⟨by rfl, ?_⟩) hHeld ?_ ?_
  rotate_left
  · rintro w' ⟨s0, s1⟩
    go_simp
    with_reducible rfl
  rotate_left
  · simp only [Act.put, List.setIfInBounds_toArray, List.set_cons_zero, List.set_cons_succ, i64_w, i32_w]
    rfl
  refine pure_ (i := 2) (N := some 13) (v := ?_) (a' := ?_) #[true, true, true, false, false, false, false] rfl rfl (by kernel_rfl) (fun _ _ _ h => h) (Or.inl ⟨by rfl, ?_⟩) ?_ ?_
  rotate_left
  · intro w'
    go_simp
    with_reducible rfl
  rotate_left
  · simp only [Act.put, List.setIfInBounds_toArray, List.set_cons_zero, List.set_cons_succ, i64_w, i32_w]
    rfl
  refine take_ (i := 3) (N := some 14) (v := ?_) (a' := ?_) #[true, true, true, true, false, false, false] rfl rfl (by kernel_rfl) (fun _ _ _ h => h) (Or.inl ⟨by rfl, ?_⟩) hHeld ?_ ?_
  rotate_left
  · rintro w' ⟨s0, s1⟩
    go_simp
    with_reducible rfl
  rotate_left
  · simp only [Act.put, List.setIfInBounds_toArray, List.set_cons_zero, List.set_cons_succ, i64_w, i32_w]
    rfl
  have r0 := blk_drew (blk_below hR.c0 hB)
  have r1 := blk_drew (blk_below hR.c1 hB)
  have r2 := blk_drew (blk_below hR.c2 hB)
  replace hG := blk_drew hG
  replace hF := hF.drew
  clear hB hR hHeld
  generalize wA.drew = wD at *
  have c0 := (blk_cell r0 0).trans rfl
  have f0 := blk_frozen r0 0
  refine one_ (i := 4) (N := none) #[true, true, true, true, true, false, false] rfl rfl (by kernel_rfl) (by decide) (fun K hK => ?_)
  refine skip_ (w1 := wD.setCell ⟨g, 0, none⟩ (.slice none 0 0)) (by rfl) rfl ?_ ?_
  · go_simp
  clear c0 f0
  replace r0 := blk_set r0 0 (.slice none 0 0)
  replace r1 := blk_far r1 (p := ⟨g, 0, none⟩) (show g + 1 ≠ g by omega) (.slice none 0 0)
  replace r2 := blk_far r2 (p := ⟨g, 0, none⟩) (show g + 1 + 1 ≠ g by omega) (.slice none 0 0)
  replace hG := blk_far hG (p := ⟨g, 0, none⟩) (show w.heap.size ≠ g by omega) (.slice none 0 0)
  replace hF := hF.setCell ⟨g, 0, none⟩ (.slice none 0 0) (fun _ => .inl rfl)
  generalize wD.setCell ⟨g, 0, none⟩ (.slice none 0 0) = w2 at *
  refine hK.out _ _ ⟨(blk_cell hG 0).trans rfl, (blk_cell hG 1).trans rfl⟩ (fun hHeld => ?_)
  clear hK K hHeld
  have c1 := (blk_cell r1 0).trans rfl
  have f1 := blk_frozen r1 0
  refine one_ (i := 5) (N := none) #[true, true, true, true, true, true, false] rfl rfl (by kernel_rfl) (by decide) (fun K hK => ?_)
  refine skip_ (w1 := w2.setCell ⟨g + 1, 0, none⟩ (.int .i64 e)) (by rfl) rfl ?_ ?_
  · go_simp
  clear c1 f1
  replace r0 := blk_far r0 (p := ⟨g + 1, 0, none⟩) (show g ≠ g + 1 by omega) (.int .i64 e)
  replace r1 := blk_set r1 0 (.int .i64 e)
  replace r2 := blk_far r2 (p := ⟨g + 1, 0, none⟩) (show g + 1 + 1 ≠ g + 1 by omega) (.int .i64 e)
  replace hG := blk_far hG (p := ⟨g + 1, 0, none⟩) (show w.heap.size ≠ g + 1 by omega) (.int .i64 e)
  replace hF := hF.setCell ⟨g + 1, 0, none⟩ (.int .i64 e) (fun _ => .inr (.inl rfl))
  generalize w2.setCell ⟨g + 1, 0, none⟩ (.int .i64 e) = w3 at *
  refine hK.out _ _ ⟨(blk_cell hG 0).trans rfl, (blk_cell hG 1).trans rfl⟩ (fun hHeld => ?_)
  clear hK K hHeld
  have c2 := (blk_cell r2 0).trans rfl
  have f2 := blk_frozen r2 0
  refine one_ (i := 6) (N := none) #[true, true, true, true, true, true, true] rfl rfl (by kernel_rfl) (by decide) (fun K hK => ?_)
  refine skip_ (w1 := w3.setCell ⟨g + 1 + 1, 0, none⟩ (.int .i64 a)) (by rfl) rfl ?_ ?_
  · go_simp
  clear c2 f2
  replace r0 := blk_far r0 (p := ⟨g + 1 + 1, 0, none⟩) (show g ≠ g + 1 + 1 by omega) (.int .i64 a)
  replace r1 := blk_far r1 (p := ⟨g + 1 + 1, 0, none⟩) (show g + 1 ≠ g + 1 + 1 by omega) (.int .i64 a)
  replace r2 := blk_set r2 0 (.int .i64 a)
  replace hG := blk_far hG (p := ⟨g + 1 + 1, 0, none⟩) (show w.heap.size ≠ g + 1 + 1 by omega) (.int .i64 a)
  replace hF := hF.setCell ⟨g + 1 + 1, 0, none⟩ (.int .i64 a) (fun _ => .inr (.inr rfl))
  generalize w3.setCell ⟨g + 1 + 1, 0, none⟩ (.int .i64 a) = w4 at *
  refine hK.out _ _ ⟨(blk_cell hG 0).trans rfl, (blk_cell hG 1).trans rfl⟩ (fun hHeld => ?_)
  clear hK K hHeld
  refine done_ (by kernel_rfl) ?_
  have hRes : Res3 w4 g (.slice none 0 0) e a := ⟨r0, r1, r2⟩
  cases c₀
  refine ⟨rfl, _, rfl, .tuple #[], results_none' rfl _ _ _, rfl, rfl, hRes, hF⟩
theorem parse1_idle (g : Nat) (w : World) :
    CallsD Tryz.prog 65 #[.pointer (some ⟨g, 0, none⟩), .pointer (some ⟨g + 1, 0, none⟩), .pointer (some ⟨g + 1 + 1, 0, none⟩)] .returning w (IdleP w) := by
  have hta : ∀ w : World, (Instr.typeAssert .nilIface 20 94 true).run Tryz.prog w = .ok (.tuple #[.agg #[.int .i64 0, .int .i64 0], .bool false]) w := fun _ => by kernel_rfl
  refine callsD_of_wpS Tryz.func65 rfl fun c₀ cs hu => ?_
  apply wpS_seq
  apply wpS_region
  simp [wpOpsS, go_sem, recoverD, hu, Tryz.ntmps65, Exit.thenS, hta]
  apply wpS_seq
  apply wpS_region
  simp [wpOpsS, go_sem, Exit.thenS]
  refine wpS_cond (t := false) (by simp [Act.eval, Array.replicate]) ?_
  simp only [Bool.false_eq_true, if_false]
  refine wpS_of_wp (wp_skip ?_)
  cases c₀
  simp_all [bodyPostS, results, Tryz.results65]
  exact ⟨rfl, rfl, below_alloc (Below.refl _ _) _⟩
end Go.Proofs.YtenecpmonodjaaaGreatDoor.PAll

/- expr.Parse, walked by hand (under the contract of the parser's level). -/
namespace Go.Proofs.YtenecpmonodjaaaGreatDoor.PAll
open Go.RowKit Go.Proofs.YtenecpmonodjaaaGreatDoorW.PrintWords Go.Proofs.YtenecpmonodjaaaGreatDoorW.PrintLast Go.Proofs.YtenecpmonodjaaaGreatDoorW.PrintMore
open Go.Proofs.YtenecpmonodjaaaGreatDoor.Obs
set_option linter.unusedVariables false
set_option linter.unusedSimpArgs false

/-- What expr.Parse answers. -/
def parseR : PR → List S57 × Int × Int
  | .stop => ([], 0, 0)
  | .fail e a => ([], e, a)
  | .ok (t :: _) _ _ => ([], 5, t.a)
  | .ok [] out _ => if validX out = true then (out, 0, 0) else ([], 2, 0)
def parseX (s : List UInt8) : List S57 × Int × Int := match lex s with
  | .bad e a => ([], e, a)
  | .ok ts => parseR (parseP s.length (8 * ts.length + 8) (.lvl 1) ts [])
def expr_Parse.f (a0 : ByteArray) : Option (List S57 × Int × Int) := some (parseX a0.data.toList)
def ParseP (s : ByteArray) (w : World) (e : Ending) (w' : World) : Prop :=
  ∃ v0_ : Value, e = .returned (.tuple #[v0_, .int .i64 (parseX s.data.toList).2.1, .int .i64 (parseX s.data.toList).2.2]) ∧ Kd.R k57 57 w' w.heap.size (fun _ => True) v0_ (parseX s.data.toList).1 ∧ Below w.heap.size w w'

theorem Res3.cells {w : World} {g : Nat} {v : Value} {e a : Int} (h : Res3 w g v e a) : w.cell? ⟨g, 0, none⟩ = some v ∧ w.cell? ⟨g + 1, 0, none⟩ = some (.int .i64 e) ∧ w.cell? ⟨g + 1 + 1, 0, none⟩ = some (.int .i64 a) :=
  ⟨(blk_cell h.c0 0).trans rfl, (blk_cell h.c1 0).trans rfl, (blk_cell h.c2 0).trans rfl⟩
theorem Res3.frozen {w : World} {g : Nat} {v : Value} {e a : Int} (h : Res3 w g v e a) : w.frozen? ⟨g, 0, none⟩ = false ∧ w.frozen? ⟨g + 1, 0, none⟩ = false ∧ w.frozen? ⟨g + 1 + 1, 0, none⟩ = false :=
  ⟨blk_frozen h.c0 0, blk_frozen h.c1 0, blk_frozen h.c2 0⟩
theorem Res3.set0 {w : World} {g : Nat} {v : Value} {e a : Int} (h : Res3 w g v e a) (u : Value) : Res3 (w.setCell ⟨g, 0, none⟩ u) g u e a :=
  ⟨blk_set h.c0 0 u, blk_far h.c1 (show g + 1 ≠ g by omega) u, blk_far h.c2 (show g + 1 + 1 ≠ g by omega) u⟩
theorem Res3.set1 {w : World} {g : Nat} {v : Value} {e a : Int} (h : Res3 w g v e a) (u : Int) : Res3 (w.setCell ⟨g + 1, 0, none⟩ (.int .i64 u)) g v u a :=
  ⟨blk_far h.c0 (show g ≠ g + 1 by omega) _, blk_set h.c1 0 _, blk_far h.c2 (show g + 1 + 1 ≠ g + 1 by omega) _⟩
theorem Res3.set2 {w : World} {g : Nat} {v : Value} {e a : Int} (h : Res3 w g v e a) (u : Int) : Res3 (w.setCell ⟨g + 1 + 1, 0, none⟩ (.int .i64 u)) g v e u :=
  ⟨blk_far h.c0 (show g ≠ g + 1 + 1 by omega) _, blk_far h.c1 (show g + 1 ≠ g + 1 + 1 by omega) _, blk_set h.c2 0 _⟩
theorem Res3.below {w w' : World} {g : Nat} {v : Value} {e a : Int} (h : Res3 w g v e a) (hb : Below w.heap.size w w') : Res3 w' g v e a :=
  ⟨blk_below h.c0 hb, blk_below h.c1 hb, blk_below h.c2 hb⟩
theorem below_r3 {w0 w w' : World} {g : Nat} (h : Below w0.heap.size w0 w) (hf : Fr (R3 g) w w') (hg : w0.heap.size ≤ g) : Below w0.heap.size w0 w' :=
  ((Fr.below h (S := fun _ => False)).step hf (fun b hb he => by rcases he with e | e | e <;> omega)).toBelow (fun _ _ h => h)

theorem leaves_congr {P : Program} {fn : Func} {tmps tmps' : Array Value} {R : Ending → World → Prop} (hr : results fn tmps = results fn tmps') : ∀ (ds : List Deferred) (u : FrameMode) (w : World), Leaves P fn tmps R ds u w → Leaves P fn tmps' R ds u w
  | [], .returning, w, h => by obtain ⟨v, h1, h2⟩ := h; exact ⟨v, by rw [← hr]; exact h1, h2⟩
  | [], .panicking chain, w, h => h
  | [], .run, w, h => h
  | d :: ds, u, w, h => by
    obtain ⟨h1, fv, cap, f, args, h2, h3, h4⟩ := h
    refine ⟨h1, fv, cap, f, args, h2, h3, h4.mono ?_⟩
    intro e u' w' he
    cases e with
    | returned v => exact leaves_congr hr ds _ _ he
    | panicked c => exact leaves_congr hr ds _ _ he
    | outgrown => exact he
theorem parse_results (a : Array Value) (i : Nat) (hi : 4 < i) (v : Value) : results Tryz.f44 (a.setIfInBounds i v) = results Tryz.f44 a := by
  have h (j : Nat) (hj : j < 5) : (a.setIfInBounds i v).getD j undef = a.getD j undef := by
    rw [Array.getD_eq_getD_getElem?, Array.getD_eq_getD_getElem?, Array.getElem?_setIfInBounds_ne (by omega)]
  unfold results
  rw [Tryz.results44]
  have h2 := h 2 (by decide)
  have h3 := h 3 (by decide)
  have h4 := h 4 (by decide)
  simp only [Array.getD_eq_getD_getElem?] at h2 h3 h4
  simp [h2, h3, h4]
theorem hq_parse {K1 K2 : Act → World → Prop} {R : Ending → World → Prop} {i : Nat} {v : Value} {c : List PanicEntry} {a : Act} {w : World} (hi : 4 < i) (h : Exit.then K1 (Exit.then K2 (bodyPostD Tryz.prog Tryz.f44 R)) (.panic c) (a.put (some i) v) w) : Exit.then K1 (Exit.then K2 (bodyPostD Tryz.prog Tryz.f44 R)) (.panic c) a w :=
  leaves_congr (parse_results a.tmps i hi v) _ _ _ h

theorem hq_parse_ {K1 K2 : Act → World → Prop} {R : Ending → World → Prop} {i : Nat} {v : Value} {c : List PanicEntry} {a : Act} {w : World} (h : Exit.then K1 (Exit.then K2 (bodyPostD Tryz.prog Tryz.f44 R)) (.panic c) (a.put (some (i + 5)) v) w) : Exit.then K1 (Exit.then K2 (bodyPostD Tryz.prog Tryz.f44 R)) (.panic c) a w :=
  hq_parse (by omega) h

set_option maxHeartbeats 2000000 in
set_option maxRecDepth 100000 in
theorem parse_bad (s : ByteArray) (w : World) (er at_ : Int) (hx : lex s.data.toList = .bad er at_) : Calls Tryz.prog 44 #[.string s] w (ParseP s w) := by
  have her := lex_bad _ _ _ hx
  have hpx : parseX s.data.toList = ([], er, at_) := by unfold parseX; rw [hx]
  have HPX := Lib.hid hpx
  have hlx : lexR (lex s.data.toList) = ([], er, at_) := by rw [hx]; rfl
  clear hpx hx
  go_enter_defers Tryz.func44, Tryz.ntmps44
  go_wp2_with fail
  generalize hW : (((w.alloc (Obj.cells #[Value.slice none 0 0] 23)).alloc (Obj.cells #[Value.int IntKind.i64 0] 27)).alloc (Obj.cells #[Value.int IntKind.i64 0] 3)) = wv
  have s1 : (w.alloc (Obj.cells #[Value.slice none 0 0] 23)).heap.size = w.heap.size + 1 := alloc_size _ _
  have s2 : ((w.alloc (Obj.cells #[Value.slice none 0 0] 23)).alloc (Obj.cells #[Value.int IntKind.i64 0] 27)).heap.size = w.heap.size + 1 + 1 := by rw [alloc_size, s1]
  have hR : Res3 wv w.heap.size (.slice none 0 0) 0 0 := by
    rw [← hW]
    refine ⟨blk_alloc (blk_alloc (blk_new w _) _) _, ?_, ?_⟩
    · have h := blk_new (w.alloc (Obj.cells #[Value.slice none 0 0] 23)) (Obj.cells #[Value.int IntKind.i64 0] 27); rw [s1] at h; exact blk_alloc h _
    · have h := blk_new ((w.alloc (Obj.cells #[Value.slice none 0 0] 23)).alloc (Obj.cells #[Value.int IntKind.i64 0] 27)) (Obj.cells #[Value.int IntKind.i64 0] 3); rw [s2] at h; exact h
  have hBv : Below w.heap.size w wv := by rw [← hW]; exact below_alloc (below_alloc (below_alloc (Below.refl _ _) _) _) _
  clear hW s1 s2
  refine (lexer_Lex.calls s [] er at_ _ (by rw [← hlx]; rfl)).mono ?_
  rintro e w1 ⟨v0, rfl, hr1, hb1⟩
  clear hlx
  obtain ⟨A, c, rfl, hc, hC⟩ := Kd.R_reads hr1
  have hR1 := hR.below hb1
  have hB1 := below_then hBv hBv.size hb1
  clear hR hBv hb1 hr1 hC
  obtain ⟨c0, c1, c2⟩ := hR1.cells
  obtain ⟨f0, f1, f2⟩ := hR1.frozen
  have he0 : (er == 0) = false := beq_eq_false_iff_ne.2 (by omega)
  have he1 : (er != 0) = true := bne_iff_ne.2 (by omega)
  have HR2 := Lib.hid ((hR1.set1 er).set2 at_)
  have HF2 := Lib.hid (below_r3 hB1 (((Fr.refl (R3 w.heap.size) w1).setCell ⟨w.heap.size + 1, 0, none⟩ (.int .i64 er) (fun _ => .inr (.inl rfl))).setCell ⟨w.heap.size + 1 + 1, 0, none⟩ (.int .i64 at_) (fun _ => .inr (.inr rfl))) (Nat.le_refl _))
  clear hR1 hB1
  go_wp2_with fail
  generalize (w1.setCell ⟨w.heap.size + 1, 0, none⟩ (.int .i64 er)).setCell ⟨w.heap.size + 1 + 1, 0, none⟩ (.int .i64 at_) = w2 at HR2 HF2 ⊢
  clear c0 c1 c2 f0 f1 f2
  have hR3 : Res3 w2.drew w.heap.size (.slice none 0 0) er at_ := HR2.out.below (below_drew1 (Below.refl _ _))
  have hF3 : Below w.heap.size w w2.drew := below_drew1 HF2.out
  clear HR2 HF2
  refine start_ (n := 5) (S := (fun w' => w'.cell? ⟨w.heap.size + 1, 0, none⟩ = some (.int .i64 er) ∧ w'.cell? ⟨w.heap.size + 1 + 1, 0, none⟩ = some (.int .i64 at_))) (ds := []) #[false, false, false, false, false] (by kernel_rfl) rfl rfl ⟨hR3.cells.2.1, hR3.cells.2.2⟩ (fun hHeld => ?_)
  generalize w2.drew = w3 at *
  refine take_ (i := 0) (N := some 15) (v := ?_) (a' := ?_) #[true, false, false, false, false] rfl rfl (by kernel_rfl) (fun _ _ _ h => hq_parse_ h) (Or.inl ⟨by rfl, ?_⟩) hHeld ?_ ?_
  rotate_left
  · rintro w' ⟨s0, s1⟩
    go_simp
    with_reducible rfl
  rotate_left
  · simp only [Act.put, List.setIfInBounds_toArray, List.set_cons_zero, List.set_cons_succ, i64_w, i32_w]
    rfl
  refine take_ (i := 1) (N := some 16) (v := ?_) (a' := ?_) #[true, true, false, false, false] rfl rfl (by kernel_rfl) (fun _ _ _ h => hq_parse_ h) (Or.inl ⟨by rfl, ?_⟩) hHeld ?_ ?_
  rotate_left
  · rintro w' ⟨s0, s1⟩
    go_simp
    with_reducible rfl
  rotate_left
  · simp only [Act.put, List.setIfInBounds_toArray, List.set_cons_zero, List.set_cons_succ, i64_w, i32_w]
    rfl
  clear hHeld
  obtain ⟨c0, c1, c2⟩ := hR3.cells
  obtain ⟨f0, f1, f2⟩ := hR3.frozen
  refine one_ (i := 2) (N := none) #[true, true, true, false, false] rfl rfl (by kernel_rfl) (by decide) (fun K hK => ?_)
  refine skip_ (w1 := w3.setCell ⟨w.heap.size, 0, none⟩ (.slice none 0 0)) (by rfl) rfl ?_ ?_
  · go_simp
  clear c0 c1 c2 f0 f1 f2
  replace hF3 := below_r3 hF3 ((Fr.refl (R3 w.heap.size) w3).setCell ⟨w.heap.size, 0, none⟩ (.slice none 0 0) (fun _ => .inl rfl)) (Nat.le_refl _)
  replace hR3 := hR3.set0 (.slice none 0 0)
  generalize w3.setCell ⟨w.heap.size, 0, none⟩ (.slice none 0 0) = w4 at *
  refine hK.out _ _ ⟨hR3.cells.2.1, hR3.cells.2.2⟩ (fun hHeld => ?_)
  clear hK K hHeld
  obtain ⟨c0, c1, c2⟩ := hR3.cells
  obtain ⟨f0, f1, f2⟩ := hR3.frozen
  refine one_ (i := 3) (N := none) #[true, true, true, true, false] rfl rfl (by kernel_rfl) (by decide) (fun K hK => ?_)
  refine skip_ (w1 := w4.setCell ⟨w.heap.size + 1, 0, none⟩ (.int .i64 er)) (by rfl) rfl ?_ ?_
  · go_simp
  clear c0 c1 c2 f0 f1 f2
  replace hF3 := below_r3 hF3 ((Fr.refl (R3 w.heap.size) w4).setCell ⟨w.heap.size + 1, 0, none⟩ (.int .i64 er) (fun _ => .inr (.inl rfl))) (Nat.le_refl _)
  replace hR3 := hR3.set1 er
  generalize w4.setCell ⟨w.heap.size + 1, 0, none⟩ (.int .i64 er) = w5 at *
  refine hK.out _ _ ⟨hR3.cells.2.1, hR3.cells.2.2⟩ (fun hHeld => ?_)
  clear hK K hHeld
  obtain ⟨c0, c1, c2⟩ := hR3.cells
  obtain ⟨f0, f1, f2⟩ := hR3.frozen
  refine one_ (i := 4) (N := none) #[true, true, true, true, true] rfl rfl (by kernel_rfl) (by decide) (fun K hK => ?_)
  refine skip_ (w1 := w5.setCell ⟨w.heap.size + 1 + 1, 0, none⟩ (.int .i64 at_)) (by rfl) rfl ?_ ?_
  · go_simp
  clear c0 c1 c2 f0 f1 f2
  replace hF3 := below_r3 hF3 ((Fr.refl (R3 w.heap.size) w5).setCell ⟨w.heap.size + 1 + 1, 0, none⟩ (.int .i64 at_) (fun _ => .inr (.inr rfl))) (Nat.le_refl _)
  replace hR3 := hR3.set2 at_
  generalize w5.setCell ⟨w.heap.size + 1 + 1, 0, none⟩ (.int .i64 at_) = w6 at *
  refine hK.out _ _ ⟨hR3.cells.2.1, hR3.cells.2.2⟩ (fun hHeld => ?_)
  clear hK K hHeld
  refine done_ (by kernel_rfl) ?_
  obtain ⟨c0, c1, c2⟩ := hR3.cells
  go_wp2_with fail
  show Leaves _ _ _ _ [] .returning w6
  refine ⟨.tuple #[.slice none 0 0, .int .i64 er, .int .i64 at_], ?_, .slice none 0 0, ?_, ?_, hF3⟩
  · simp [results, Tryz.results44, go_sem, c0, c1, c2]
  · rw [HPX.out]
  · rw [HPX.out]; exact Kd.R_nil _ _ _ _ _
theorem parse_init {wB w4 : World} {gp : Nat} {n : Nat} {At : Option Addr} {ct : Nat} {ts : List Tok} (hb : Below wB.heap.size wB w4) (hg : wB.heap.size ≤ gp) (hc : w4.heap[gp]? = some (.cells #[.slice At ts.length ct, .int .i64 n, .slice none 0 0] 97 (0, 0))) (hC : Kd.C k86 wB At ts.length (ts.map tokS)) (hl : ts.length ≤ ct) :
    PSt wB gp (n : Int) (fun _ => False) w4 ts (.slice none 0 0) [] :=
  ⟨hb, hg, ⟨At, ct, hc, hC, hl⟩, Kd.R_nil _ _ _ _ _, fun _ h => h.elim⟩

set_option maxHeartbeats 2000000 in
set_option maxRecDepth 100000 in
theorem parse_ok (hlev : ∀ wB gp ende f, LevelOk wB gp ende f) (s : ByteArray) (w : World) (ts : List Tok) (hx : lex s.data.toList = .ok ts) : Calls Tryz.prog 44 #[.string s] w (ParseP s w) := by
  have hmf : ∀ (fn : Fn) (first cap : Array Value) (w : World), (Instr.makeFunc fn first cap).run Tryz.prog w = .ok (.func fn first cap) w := fun _ _ _ _ => rfl
  have hlen := lex_len _ _ hx
  have HPX := Lib.hid (show parseX s.data.toList = parseR (parseP s.size (8 * ts.length + 8) (.lvl 1) ts []) by unfold parseX; rw [hx, data_length])
  have hlx : lexR (lex s.data.toList) = (ts.map tokS, 0, 0) := by rw [hx]; rfl
  have HFU := Lib.hid (parse_fuel (s.size : Int) (8 * ts.length + 8) ts [] (Nat.le_refl _))
  have HLEV := Lib.hid hlev
  clear hlev
  clear hx
  go_enter_defers Tryz.func44, Tryz.ntmps44
  go_wp2_with fail
  generalize hW : (((w.alloc (Obj.cells #[Value.slice none 0 0] 23)).alloc (Obj.cells #[Value.int IntKind.i64 0] 27)).alloc (Obj.cells #[Value.int IntKind.i64 0] 3)) = wv
  have s1 : (w.alloc (Obj.cells #[Value.slice none 0 0] 23)).heap.size = w.heap.size + 1 := alloc_size _ _
  have s2 : ((w.alloc (Obj.cells #[Value.slice none 0 0] 23)).alloc (Obj.cells #[Value.int IntKind.i64 0] 27)).heap.size = w.heap.size + 1 + 1 := by rw [alloc_size, s1]
  have hR : Res3 wv w.heap.size (.slice none 0 0) 0 0 := by
    rw [← hW]
    refine ⟨blk_alloc (blk_alloc (blk_new w _) _) _, ?_, ?_⟩
    · have h := blk_new (w.alloc (Obj.cells #[Value.slice none 0 0] 23)) (Obj.cells #[Value.int IntKind.i64 0] 27); rw [s1] at h; exact blk_alloc h _
    · have h := blk_new ((w.alloc (Obj.cells #[Value.slice none 0 0] 23)).alloc (Obj.cells #[Value.int IntKind.i64 0] 27)) (Obj.cells #[Value.int IntKind.i64 0] 3); rw [s2] at h; exact h
  have hBv : Below w.heap.size w wv := by rw [← hW]; exact below_alloc (below_alloc (below_alloc (Below.refl _ _) _) _) _
  clear hW s1 s2
  refine (lexer_Lex.calls s (ts.map tokS) 0 0 _ (by rw [← hlx]; rfl)).mono ?_
  rintro e w1 ⟨v0, rfl, hr1, hb1⟩
  clear hlx
  obtain ⟨A, c, rfl, hc, hC⟩ := Kd.R_reads hr1
  rw [List.length_map] at hc hC
  have hR1 := hR.below hb1
  have hB1 := below_then hBv hBv.size hb1
  have hwv := hBv.size
  have hw3 : w.heap.size + 1 + 1 < wv.heap.size := blk_lt hR.c2
  clear hR hBv hb1
  obtain ⟨c0, c1, c2⟩ := hR1.cells
  obtain ⟨f0, f1, f2⟩ := hR1.frozen
  rw [List.length_map]
  have HR2 := Lib.hid ((hR1.set1 0).set2 0)
  have hFr := ((Fr.refl (R3 w.heap.size) w1).setCell ⟨w.heap.size + 1, 0, none⟩ (.int .i64 0) (fun _ => .inr (.inl rfl))).setCell ⟨w.heap.size + 1 + 1, 0, none⟩ (.int .i64 0) (fun _ => .inr (.inr rfl))
  have HF2 := Lib.hid (below_r3 hB1 hFr (Nat.le_refl _))
  have hr2 := Kd.R_move (Kd.R_bound hr1) (fun k hk => hFr.block k hk.2.2.1 (fun e => by have := hk.2.1; rcases e with e | e | e <;> omega))
  have hC2 := (Kd.R_reads' hr2).2.2
  rw [List.length_map] at hC2
  have HC2 := Lib.hid hC2
  clear hR1 hB1 hr1 hr2 hC hC2 hFr
  go_wp2_with fail
  have hsz : ((w1.setCell ⟨w.heap.size + 1, 0, none⟩ (.int .i64 0)).setCell ⟨w.heap.size + 1 + 1, 0, none⟩ (.int .i64 0)).heap.size = w1.heap.size := by simp [World.setCell]
  generalize (w1.setCell ⟨w.heap.size + 1, 0, none⟩ (.int .i64 0)).setCell ⟨w.heap.size + 1 + 1, 0, none⟩ (.int .i64 0) = w2 at HR2 HF2 HC2 hsz ⊢
  clear c0 c1 c2 f0 f1 f2
  have hB3 := below_alloc (Below.refl w2.heap.size w2) (.cells #[.slice A ts.length c, .int .i64 (s.size : Int), .slice none 0 0] 97)
  have hp3 := blk_new w2 (.cells #[.slice A ts.length c, .int .i64 (s.size : Int), .slice none 0 0] 97)
  generalize w2.alloc (.cells #[.slice A ts.length c, .int .i64 (s.size : Int), .slice none 0 0] 97) = w3 at hB3 hp3 ⊢
  rw [hsz] at hp3
  have hP := parse_init hB3 (Nat.le_of_eq hsz) hp3 HC2.out hc
  have HSZ := Lib.hid hsz
  clear hsz
  refine (HLEV.out w2 w1.heap.size (s.size : Int) (8 * ts.length + 8) (fun _ => False) 1 ts (.slice none 0 0) [] w3 hP (by omega) (by omega) (by simpa using hlen) HFU.out).mono ?_
  intro e w4 he
  have hlb := blk_lt HR2.out.c2
  cases hr : parseP (s.size : Int) (8 * ts.length + 8) (.lvl 1) ts [] with
  | stop => exact absurd hr HFU.out
  | fail er a =>
    rw [hr] at he
    obtain ⟨rfl, hb⟩ := he
    have HQ := Lib.hid (show parseX s.data.toList = ([], er, a) by rw [HPX.out, hr]; rfl)
    have hR4 := HR2.out.below hb
    have hF4 := below_then HF2.out HF2.out.size hb
    show Leaves _ _ _ _ [_] (.panicking _) w4
    refine leaves_cons (f := 65) (args := #[.pointer (some ⟨w.heap.size, 0, none⟩), .pointer (some ⟨w.heap.size + 1, 0, none⟩), .pointer (some ⟨w.heap.size + 1 + 1, 0, none⟩)]) (by simp) (by simp [go_sem]) ?_
    refine (parse1_catch w.heap.size _ _ _ er a [] w4 hR4).mono ?_
    rintro e u' w5 ⟨rfl, rfl, hR5, hf5⟩
    have hF5 := below_r3 hF4 hf5 (Nat.le_refl _)
    obtain ⟨c0, c1, c2⟩ := hR5.cells
    refine ⟨.tuple #[.slice none 0 0, .int .i64 er, .int .i64 a], ?_, .slice none 0 0, ?_, ?_, hF5⟩
    · simp [results, Tryz.results44, go_sem, c0, c1, c2]
    · rw [HQ.out]
    · rw [HQ.out]; exact Kd.R_nil _ _ _ _ _
  | ok ts2 out i =>
    rw [hr] at he
    obtain ⟨rfl, v2, hP2, hM2⟩ := he
    have HQ := Lib.hid (HPX.out.trans (congrArg parseR hr))
    clear HPX hr HFU
    obtain ⟨At, ct, hc4, hC4, hl4⟩ := hP2.cell
    have q0 := (blk_cell hc4 0).trans rfl
    have q2 := (blk_cell hc4 2).trans rfl
    have hR4 := HR2.out.below hP2.below
    have hF4 := below_then HF2.out HF2.out.size hP2.below
    cases ts2 with
    | cons t r =>
      have hgt : decide ((0 : Int) < (r.length : Int) + 1) = true := decide_eq_true (by omega)
      go_wp2_with fail
      refine (fail_calls hP2 5).mono ?_
      intro e w5 he
      have he' : e = failV 5 t.a ∧ w5 = w4 := he
      obtain ⟨rfl, rfl⟩ := he'
      show Leaves _ _ _ _ [_] (.panicking _) w5
      refine leaves_cons (f := 65) (args := #[.pointer (some ⟨w.heap.size, 0, none⟩), .pointer (some ⟨w.heap.size + 1, 0, none⟩), .pointer (some ⟨w.heap.size + 1 + 1, 0, none⟩)]) (by simp) (by simp [go_sem]) ?_
      refine (parse1_catch w.heap.size _ _ _ 5 t.a [] w5 hR4).mono ?_
      rintro e u' w6 ⟨rfl, rfl, hR5, hf5⟩
      have hF5 := below_r3 hF4 hf5 (Nat.le_refl _)
      obtain ⟨c0, c1, c2⟩ := hR5.cells
      refine ⟨.tuple #[.slice none 0 0, .int .i64 5, .int .i64 t.a], ?_, .slice none 0 0, ?_, ?_, hF5⟩
      · simp [results, Tryz.results44, go_sem, c0, c1, c2]
      · rw [HQ.out]; rfl
      · rw [HQ.out]; exact Kd.R_nil _ _ _ _ _
    | nil =>
      obtain ⟨Ao, co, hvo, hlo, hCo⟩ := Kd.R_reads hP2.rows
      subst hvo
      go_wp2_with fail
      refine (expr_Valid.calls Ao co out (validX out) w4 hCo hlo rfl).mono ?_
      rintro e w5 ⟨rfl, hb5⟩
      have hR5 := hR4.below hb5
      have hF5 := below_then hF4 hF4.size hb5
      have hc5 := blk_below hc4 hb5
      have hrow5 := Kd.R_bound (Kd.R_below hP2.rows hb5)
      obtain ⟨c0, c1, c2⟩ := hR5.cells
      obtain ⟨f0, f1, f2⟩ := hR5.frozen
      have HR5 := Lib.hid hR5
      have HW5 := Lib.hid hrow5
      clear hR4 hF4 hR5 hrow5 hP2 hM2 hc4 q0 q2 hC4 hCo
      cases hv : validX out with
      | false =>
        have HQ2 := Lib.hid (HQ.out.trans (show (if validX out = true then (out, (0 : Int), (0 : Int)) else ([], 2, 0)) = ([], 2, 0) by rw [hv]; rfl))
        clear HQ
        go_wp2_with fail
        have hR6 := ((HR5.out.set0 (.slice none 0 0)).set1 2).set2 0
        have hFr6 := (((Fr.refl (R3 w.heap.size) w5).setCell ⟨w.heap.size, 0, none⟩ (.slice none 0 0) (fun _ => .inl rfl)).setCell ⟨w.heap.size + 1, 0, none⟩ (.int .i64 2) (fun _ => .inr (.inl rfl))).setCell ⟨w.heap.size + 1 + 1, 0, none⟩ (.int .i64 0) (fun _ => .inr (.inr rfl))
        have hF6 := below_r3 hF5 hFr6 (Nat.le_refl _)
        skip
        generalize ((w5.setCell ⟨w.heap.size, 0, none⟩ (.slice none 0 0)).setCell ⟨w.heap.size + 1, 0, none⟩ (.int .i64 2)).setCell ⟨w.heap.size + 1 + 1, 0, none⟩ (.int .i64 0) = w6 at *
        show Leaves _ _ _ _ [_] .returning w6
        refine leaves_cons (f := 65) (args := #[.pointer (some ⟨w.heap.size, 0, none⟩), .pointer (some ⟨w.heap.size + 1, 0, none⟩), .pointer (some ⟨w.heap.size + 1 + 1, 0, none⟩)]) (by simp) (by simp [go_sem]) ?_
        refine (parse1_idle w.heap.size w6).mono ?_
        rintro e u' w7 ⟨rfl, rfl, hb7⟩
        have hR7 := hR6.below hb7
        have hF7 := below_then hF6 hF6.size hb7
        clear c0 c1 c2
        obtain ⟨c0, c1, c2⟩ := hR7.cells
        refine ⟨.tuple #[(.slice none 0 0), .int .i64 2, .int .i64 0], ?_, (.slice none 0 0), ?_, ?_, hF7⟩
        · simp [results, Tryz.results44, go_sem, c0, c1, c2]
        · rw [HQ2.out]
        · rw [HQ2.out]; exact Kd.R_nil _ _ _ _ _
      | true =>
        have HQ2 := Lib.hid (HQ.out.trans (show (if validX out = true then (out, (0 : Int), (0 : Int)) else ([], 2, 0)) = (out, 0, 0) by rw [hv]; rfl))
        clear HQ
        have q2 := (blk_cell hc5 2).trans rfl
        go_wp2_with fail
        have hR6 := ((HR5.out.set0 (.slice Ao out.length co)).set1 0).set2 0
        have hFr6 := (((Fr.refl (R3 w.heap.size) w5).setCell ⟨w.heap.size, 0, none⟩ (.slice Ao out.length co) (fun _ => .inl rfl)).setCell ⟨w.heap.size + 1, 0, none⟩ (.int .i64 0) (fun _ => .inr (.inl rfl))).setCell ⟨w.heap.size + 1 + 1, 0, none⟩ (.int .i64 0) (fun _ => .inr (.inr rfl))
        have hF6 := below_r3 hF5 hFr6 (Nat.le_refl _)
        have hrow6 := Kd.R_move HW5.out (fun k hk => hFr6.block k hk.2.2.1 (fun e => by have := hk.2.1; rcases e with e | e | e <;> omega))
        generalize ((w5.setCell ⟨w.heap.size, 0, none⟩ (.slice Ao out.length co)).setCell ⟨w.heap.size + 1, 0, none⟩ (.int .i64 0)).setCell ⟨w.heap.size + 1 + 1, 0, none⟩ (.int .i64 0) = w6 at *
        show Leaves _ _ _ _ [_] .returning w6
        refine leaves_cons (f := 65) (args := #[.pointer (some ⟨w.heap.size, 0, none⟩), .pointer (some ⟨w.heap.size + 1, 0, none⟩), .pointer (some ⟨w.heap.size + 1 + 1, 0, none⟩)]) (by simp) (by simp [go_sem]) ?_
        refine (parse1_idle w.heap.size w6).mono ?_
        rintro e u' w7 ⟨rfl, rfl, hb7⟩
        have hR7 := hR6.below hb7
        have hF7 := below_then hF6 hF6.size hb7
        clear c0 c1 c2
        obtain ⟨c0, c1, c2⟩ := hR7.cells
        refine ⟨.tuple #[(.slice Ao out.length co), .int .i64 0, .int .i64 0], ?_, (.slice Ao out.length co), ?_, ?_, hF7⟩
        · simp [results, Tryz.results44, go_sem, c0, c1, c2]
        · rw [HQ2.out]
        · rw [HQ2.out]; exact Kd.R_mono (Kd.R_lower (Kd.R_below hrow6 hb7) (by omega)) (fun _ _ => trivial)
theorem parse_walk (hlev : ∀ wB gp ende f, LevelOk wB gp ende f) (a0 : ByteArray) (r1 : List S57) (r2 r3 : Int) (w : World) (h : expr_Parse.f a0 = some (r1, r2, r3)) :
    Calls Tryz.prog 44 #[.string a0] w fun e w' => ∃ v0_ : Value, e = .returned (.tuple #[v0_, .int .i64 r2, .int .i64 r3]) ∧ Kd.R k57 57 w' w.heap.size (fun _ => True) v0_ r1 ∧ Below w.heap.size w w' := by
  have h0 : parseX a0.data.toList = (r1, r2, r3) := by simpa [expr_Parse.f] using h
  have key : Calls Tryz.prog 44 #[.string a0] w (ParseP a0 w) := by
    cases hx : lex a0.data.toList with
    | bad er at_ => exact parse_bad a0 w er at_ hx
    | ok ts => exact parse_ok hlev a0 w ts hx
  refine key.mono ?_
  intro e w' he
  unfold ParseP at he
  rw [h0] at he
  exact he
end Go.Proofs.YtenecpmonodjaaaGreatDoor.PAll

/- The parser's contracts, joined; expr.Parse's. -/
namespace Go.Proofs.YtenecpmonodjaaaGreatDoor.PAll
open Go.RowKit Go.Proofs.YtenecpmonodjaaaGreatDoorW.PrintWords Go.Proofs.YtenecpmonodjaaaGreatDoorW.PrintLast Go.Proofs.YtenecpmonodjaaaGreatDoorW.PrintMore
open Go.Proofs.YtenecpmonodjaaaGreatDoor.Obs
set_option linter.unusedVariables false
set_option linter.unusedSimpArgs false

theorem prim_walk (wB : World) (gp : Nat) (ende : Int) (f : Nat) (IH : ∀ g, g ≤ f → LevelOk wB gp ende g ∧ PrimOk wB gp ende g) : PrimOk wB gp ende (f + 1) := by
  intro X ts vo out w hP hN hne
  by_cases h : seesP ts 0 [40] = false ∧ ∃ t r, ts = t :: r ∧ t.k = 1 ∧ (lookM functionsL t.t).getD 0 ≠ 0
  · obtain ⟨hs, t, r, rfl, hk, hl⟩ := h
    exact prim_call wB gp ende f IH X t r vo out w hP hN hne hs hk hl
  · refine prim_simple wB gp ende f IH X ts vo out w hP hN hne (fun hs t r e hk => ?_)
    exact Classical.byContradiction (fun hl => h ⟨hs, t, r, e, hk, hl⟩)
theorem parser_all (wB : World) (gp : Nat) (ende : Int) (f : Nat) : LevelOk wB gp ende f ∧ PrimOk wB gp ende f := by
  induction f using Nat.strongRecOn with
  | ind f ih =>
    cases f with
    | zero => exact ⟨fun _ _ _ _ _ _ _ _ _ _ h => absurd rfl h, fun _ _ _ _ _ _ _ h => absurd rfl h⟩
    | succ f => exact ⟨level_walk wB gp ende f (fun g hg => ih g (by omega)), prim_walk wB gp ende f (fun g hg => ih g (by omega))⟩
theorem expr_Parse.calls (a0 : ByteArray) (r1 : List S57) (r2 r3 : Int) (w : World) (h : expr_Parse.f a0 = some (r1, r2, r3)) :
    Calls Tryz.prog 44 #[.string a0] w fun e w' => ∃ v0_ : Value, e = .returned (.tuple #[v0_, .int .i64 r2, .int .i64 r3]) ∧ Kd.R k57 57 w' w.heap.size (fun _ => True) v0_ r1 ∧ Below w.heap.size w w' :=
  parse_walk (fun wB gp ende f => (parser_all wB gp ende f).1) a0 r1 r2 r3 w h
end Go.Proofs.YtenecpmonodjaaaGreatDoor.PAll
