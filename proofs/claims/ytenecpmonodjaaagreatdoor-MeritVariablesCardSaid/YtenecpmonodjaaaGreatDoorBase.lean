/- Small laws on the world, for the walks of this seat: what a call leaves as it was. -/
import Derived.Test.YtenecpmonodjaaaGreatDoorPAllx0
import Derived.Handy
import Derived.LoopTactic
import Derived.Defers
import Derived.Recover
import Derived.Test.YtenecpmonodjaaaGreatDoorSpec
import Derived.Laws.IdiomRangeMap
import Derived.ChangeMaps5
namespace Go.Proofs.YtenecpmonodjaaaGreatDoor.PAll
open Go.RowKit Go.Proofs.YtenecpmonodjaaaGreatDoorW.PrintWords Go.Proofs.YtenecpmonodjaaaGreatDoorW.PrintLast Go.Proofs.YtenecpmonodjaaaGreatDoorW.PrintMore
set_option linter.unusedVariables false
set_option linter.unusedSimpArgs false

theorem lt_ne {a n k : Nat} (h : a < n) : (a = n + k) = False := by simp; omega
theorem lt_ne' {a n k : Nat} (h : a < n) : (n + k = a) = False := by simp; omega
theorem lt_ne0 {a n : Nat} (h : a < n) : (a = n) = False := by simp; omega
theorem lt_ne0' {a n : Nat} (h : a < n) : (n = a) = False := by simp; omega

/-- From w to w' only blocks of S, and new ones, have turned. -/
structure Fr (S : Nat → Prop) (w w' : World) : Prop where
  os : w'.os = w.os
  tape : w'.tape = w.tape
  output : w'.output = w.output
  size : w.heap.size ≤ w'.heap.size
  block : ∀ k, k < w.heap.size → ¬ S k → w'.heap[k]? = w.heap[k]?

namespace Fr
variable {S T : Nat → Prop} {w0 w w1 : World}
theorem refl (S : Nat → Prop) (w : World) : Fr S w w := ⟨rfl, rfl, rfl, Nat.le_refl _, fun _ _ _ => rfl⟩
theorem step (h : Fr S w0 w) (k : Fr T w w1) (hT : ∀ b, b < w0.heap.size → T b → S b) : Fr S w0 w1 :=
  ⟨k.os.trans h.os, k.tape.trans h.tape, k.output.trans h.output, Nat.le_trans h.size k.size, fun i hi hs => (k.block i (Nat.lt_of_lt_of_le hi h.size) (fun ht => hs (hT i hi ht))).trans (h.block i hi hs)⟩
theorem trans (h : Fr S w0 w) (k : Fr S w w1) : Fr S w0 w1 := h.step k (fun _ _ h => h)
theorem mono (h : Fr S w0 w) (hT : ∀ b, b < w0.heap.size → S b → T b) : Fr T w0 w :=
  ⟨h.os, h.tape, h.output, h.size, fun i hi hs => h.block i hi (fun ht => hs (hT i hi ht))⟩
theorem below (h : Below w0.heap.size w0 w) : Fr S w0 w := ⟨h.os, h.tape, h.output, h.size, fun k hk _ => h.block k hk⟩
theorem toBelow (h : Fr S w0 w) (hS : ∀ b, b < w0.heap.size → ¬ S b) : Below w0.heap.size w0 w := ⟨h.os, h.tape, h.output, h.size, fun k hk => h.block k hk (hS k hk)⟩
theorem alloc (h : Fr S w0 w) (o : Obj) : Fr S w0 (w.alloc o) := h.step (T := fun _ => False) (below (below_alloc (Below.refl _ _) o)) (fun _ _ h => h.elim)
theorem drew (h : Fr S w0 w) : Fr S w0 w.drew := h.step (T := fun _ => False) (below (Below.refl _ _).drew) (fun _ _ h => h.elim)
theorem drewN (h : Fr S w0 w) (n : Nat) : Fr S w0 (w.drewN n) := h.step (T := fun _ => False) (below (pw_below_drewN (Below.refl _ _) n)) (fun _ _ h => h.elim)
theorem setCell1 (w : World) (p : Addr) (u : Value) : Fr (fun k => k = p.block) w (w.setCell p u) :=
  ⟨rfl, rfl, rfl, by simp [World.setCell], fun k _ hk => Below.heap_setCell _ _ _ _ hk⟩
theorem setCell (h : Fr S w0 w) (p : Addr) (u : Value) (hp : p.block < w0.heap.size → S p.block) : Fr S w0 (w.setCell p u) :=
  h.step (setCell1 w p u) (fun b hb e => by subst e; exact hp hb)
theorem grown {row : Option Nat} (h : w.grownBy w1 row) : Fr (fun k => some k = row) w w1 := ⟨h.os, h.tape, h.output, h.size, fun k hk hr => h.block k hk hr⟩
theorem blk {b : Nat} {o : Obj} (h : Fr S w w1) (hb : w.heap[b]? = some o) (hs : ¬ S b) : w1.heap[b]? = some o := (h.block b (blk_lt hb) hs).trans hb
theorem C {α : Type} {d : Kd α} {A : Option Addr} {n : Nat} {xs : List α} (h : Fr (fun _ => False) w w1) (hc : d.C w A n xs) : d.C w1 A n xs := Kd.C_below hc (h.toBelow (fun _ _ h => h))
end Fr
theorem below_fr {w w1 : World} (h : Below w.heap.size w w1) (S : Nat → Prop) : Fr S w w1 := Fr.below h

/-- Results: a struct in memory, then two plain ones. -/
theorem results_cell_tt {P : Program} {fn : Func} {p t u : Tmp} {ty : TypeId} (h : fn.results = #[.cell p ty, .tmp t, .tmp u]) (tmps : Array Value) (w : World) (g : Nat) (t0 : TypeId) (cs : Array Value) (fr : Nat × Nat) (d : TypeDesc)
    (hp : tmps.getD p undef = .pointer (some ⟨g, 0, none⟩)) (hg : w.heap[g]? = some (.cells cs t0 fr))
    (hu : P.underlying ty = some d) (hd : (match d with | .struct _ | .array _ _ => true | _ => false) = true) (hi : (P.info? ty).map (·.size) = some cs.size) :
    (results fn tmps).run P w = .ok (.tuple #[.agg cs, tmps.getD t undef, tmps.getD u undef]) w := by
  have hp' : tmps[p]?.getD undef = .pointer (some ⟨g, 0, none⟩) := by simpa using hp
  simp [results, h, hp', asAddr, run_loadVar_row w g t0 ty cs fr d hg hu hd hi]
theorem below_setRow {w0 w : World} (h : Below w0.heap.size w0 w) {g : Nat} (hg : w0.heap.size ≤ g) (cs : Array Value) : Below w0.heap.size w0 (w.setRow g cs) :=
  h.trans ⟨rfl, rfl, rfl, by simp, fun k hk => setRow_other _ _ _ _ (by omega)⟩
theorem results_none'
 {fn : Func} (h : fn.results = #[]) (tmps : Array Value) (P : Program) (w : World) : (results fn tmps).run P w = .ok (.tuple #[]) w := results_none h tmps P w
end Go.Proofs.YtenecpmonodjaaaGreatDoor.PAll

/- Words on a map from strings to whole numbers that a call has made: what it holds, as a list of pairs. -/
namespace Go.Proofs.YtenecpmonodjaaaGreatDoor.PAll
open Go.RowKit Go.Proofs.YtenecpmonodjaaaGreatDoorW.PrintWords Go.Proofs.YtenecpmonodjaaaGreatDoorW.PrintLast Go.Proofs.YtenecpmonodjaaaGreatDoorW.PrintMore
open Go.ChangeMaps
set_option linter.unusedVariables false
set_option linter.unusedSimpArgs false

def pairV (p : List UInt8 × Int) : Value × Value := (.string ⟨p.1.toArray⟩, .int .i64 p.2)
/-- Block b is a map that holds just these pairs (the keys apart). -/
def MapIs (w : World) (b : Nat) (l : List (List UInt8 × Int)) : Prop :=
  ∃ es clock, w.heap[b]? = some (.map es clock) ∧ MapKept.Stamped es clock ∧ es.toList.map (fun e => (e.key, e.val)) = l.map pairV

def lookM : List (List UInt8 × Int) → List UInt8 → Option Int
  | [], _ => none
  | p :: r, s => if p.1 = s then some p.2 else lookM r s
def nameM : List (List UInt8 × Int) → Int → List UInt8
  | [], _ => []
  | p :: r, n => if p.2 = n then p.1 else nameM r n

theorem MapIs.lt {w : World} {b : Nat} {l} (h : MapIs w b l) : b < w.heap.size := by obtain ⟨es, clock, hb, _⟩ := h; exact blk_lt hb
theorem MapIs.keep {w w' : World} {b : Nat} {l} (h : MapIs w b l) (hk : w'.heap[b]? = w.heap[b]?) : MapIs w' b l := by
  obtain ⟨es, clock, hb, r⟩ := h; exact ⟨es, clock, hk.trans hb, r⟩
theorem MapIs.below {w w' : World} {b : Nat} {l} (h : MapIs w b l) (hb : Below w.heap.size w w') : MapIs w' b l := h.keep (hb.block b h.lt)
theorem MapIs.made (w : World) : MapIs (w.alloc (.map #[] 0)) w.heap.size [] := ⟨#[], 0, (MapKept.heap_alloc w _).1, MapKept.stamped_empty 0, rfl⟩

theorem str_eq (a : ByteArray) (l : List UInt8) : (Value.string ⟨l.toArray⟩ = Value.string a) ↔ l = a.data.toList := by
  constructor
  · intro h
    injection h with h
    rw [← h]
  · intro h
    rw [h]
theorem keys_string {es : Array MapEntry} {l : List (List UInt8 × Int)} (h : es.toList.map (fun e => (e.key, e.val)) = l.map pairV) : ∀ x ∈ es.toList, MapKept.IsKey .string x.key := by
  intro x hx
  have : (x.key, x.val) ∈ l.map pairV := by rw [← h]; exact List.mem_map.2 ⟨x, hx, rfl⟩
  obtain ⟨p, _, hp⟩ := List.mem_map.1 this
  have : x.key = .string ⟨p.1.toArray⟩ := by simp [pairV] at hp; exact hp.1.symm
  rw [this]
  exact trivial
theorem find_pairs (s : ByteArray) : ∀ (es : List MapEntry) (l : List (List UInt8 × Int)) (i : Nat), es.map (fun e => (e.key, e.val)) = l.map pairV →
    ∃ r, Instr.findNow .string (.string s) es i = some r ∧ r.map (·.2) = (lookM l s.data.toList).map (Value.int .i64)
  | [], [], _, _ => ⟨none, rfl, rfl⟩
  | [], _ :: _, _, h => by simp at h
  | _ :: _, [], _, h => by simp at h
  | e :: es, p :: l, i, h => by
    simp only [List.map_cons, List.cons.injEq] at h
    obtain ⟨h1, h2⟩ := h
    have hk : e.key = .string ⟨p.1.toArray⟩ := (Prod.mk.inj h1).1
    have hv : e.val = .int .i64 p.2 := (Prod.mk.inj h1).2
    obtain ⟨r, hr1, hr2⟩ := find_pairs s es l (i + 1) h2
    by_cases hp : p.1 = s.data.toList
    · refine ⟨some (i, e.val), ?_, ?_⟩
      · unfold Instr.findNow
        have : Instr.sameNow .string (.string s) e.key = some true := by
          rw [hk]
          show some (s == _) = some true
          rw [(MapKept.bytes_beq _ _).2 (by rw [hp])]
        rw [this]
      · simp [lookM, hp, hv]
    · refine ⟨r, ?_, ?_⟩
      · unfold Instr.findNow
        have : Instr.sameNow .string (.string s) e.key = some false := by
          rw [hk]
          show some (s == _) = some false
          have : ¬ (s == (⟨p.1.toArray⟩ : ByteArray)) = true := fun h => hp (by rw [(MapKept.bytes_beq _ _).1 h])
          simpa using this
        rw [this]
        exact hr1
      · rw [hr2]; simp [lookM, hp]

section
variable {P : Program} {w : World} {b : Nat} {l : List (List UInt8 × Int)} {t k e : TypeId}
theorem MapIs.look (h : MapIs w b l) (ht : P.underlying t = some (.map k e)) (hk : P.underlying k = some .string) (hz : (zeroValue e).run P w = .ok (.int .i64 0) w) (s : ByteArray) :
    (Instr.lookup t (.map (some b)) (.string s) false).run P w = .ok (.int .i64 ((lookM l s.data.toList).getD 0)) w := by
  obtain ⟨es, clock, hb, _, hl⟩ := h
  obtain ⟨r, hr1, hr2⟩ := find_pairs s es.toList l 0 hl
  have hf := MapKept.run_findKey (w := w) hk hr1
  cases hm : lookM l s.data.toList with
  | none =>
    rw [hm] at hr2
    cases r with
    | some x => simp at hr2
    | none => simp [Instr.lookup, run_underlying ht, MapKept.run_getObj_map hb, MapKept.run_checkKey (d := .string) (k := .string s) hk trivial, hf, hz, Result.andThen]
  | some v =>
    rw [hm] at hr2
    cases r with
    | none => simp at hr2
    | some x =>
      obtain ⟨i, y⟩ := x
      obtain rfl : y = .int .i64 v := by simpa using hr2
      simp [Instr.lookup, run_underlying ht, MapKept.run_getObj_map hb, MapKept.run_checkKey (d := .string) (k := .string s) hk trivial, hf, Result.andThen]
theorem MapIs.lookOk (h : MapIs w b l) (ht : P.underlying t = some (.map k e)) (hk : P.underlying k = some .string) (hz : (zeroValue e).run P w = .ok (.int .i64 0) w) (s : ByteArray) :
    (Instr.lookup t (.map (some b)) (.string s) true).run P w = .ok (.tuple #[.int .i64 ((lookM l s.data.toList).getD 0), .bool (lookM l s.data.toList).isSome]) w := by
  obtain ⟨es, clock, hb, _, hl⟩ := h
  obtain ⟨r, hr1, hr2⟩ := find_pairs s es.toList l 0 hl
  have hf := MapKept.run_findKey (w := w) hk hr1
  cases hm : lookM l s.data.toList with
  | none =>
    rw [hm] at hr2
    cases r with
    | some x => simp at hr2
    | none => simp [Instr.lookup, run_underlying ht, MapKept.run_getObj_map hb, MapKept.run_checkKey (d := .string) (k := .string s) hk trivial, hf, hz, Result.andThen]
  | some v =>
    rw [hm] at hr2
    cases r with
    | none => simp at hr2
    | some x =>
      obtain ⟨i, y⟩ := x
      obtain rfl : y = .int .i64 v := by simpa using hr2
      simp [Instr.lookup, run_underlying ht, MapKept.run_getObj_map hb, MapKept.run_checkKey (d := .string) (k := .string s) hk trivial, hf, Result.andThen]
theorem MapIs.push (h : MapIs w b l) (ht : P.underlying t = some (.map k e)) (hk : P.underlying k = some .string) (s : List UInt8) (n : Int) (hn : lookM l s = none) :
    ∃ w', (Instr.mapUpdate t (.map (some b)) (.string ⟨s.toArray⟩) (.int .i64 n)).run P w = .ok () w' ∧ MapIs w' b (l ++ [(s, n)]) ∧ w.grownBy w' (some b) := by
  obtain ⟨es, clock, hb, hst, hl⟩ := h
  obtain ⟨r, hr1, hr2⟩ := find_pairs ⟨s.toArray⟩ es.toList l 0 hl
  have hf := MapKept.run_findKey (w := w) hk hr1
  rw [show ((⟨s.toArray⟩ : ByteArray).data.toList) = s from rfl, hn] at hr2
  cases r with
  | some x => simp at hr2
  | none =>
    have hne : ∀ x ∈ es.toList, x.key ≠ .string ⟨s.toArray⟩ := by
      rcases MapKept.findNow_spec (d := .string) (k := .string ⟨s.toArray⟩) trivial es.toList 0 (keys_string hl) with ⟨_, h2⟩ | ⟨j, e, h1, _, _⟩
      · exact h2
      · rw [hr1] at h1; cases h1
    refine ⟨setBlock w b (.map (es.push ⟨.string ⟨s.toArray⟩, .int .i64 n, clock⟩) (clock + 1)), by simp [Instr.mapUpdate, run_underlying ht, MapKept.run_getObj_map hb, MapKept.run_checkKey (d := .string) (k := .string ⟨s.toArray⟩) hk trivial, hf, MapKept.run_setObj_map _ hb, Result.andThen, setBlock], ⟨_, _, heap_setBlock_same hb _, MapKept.stamped_push hst hne, ?_⟩, ⟨rfl, rfl, rfl, by simp [setBlock], fun i _ hi => heap_setBlock_other hb _ (fun e => hi (by rw [e]))⟩⟩
    rw [Array.toList_push, List.map_append, hl, List.map_append]
    rfl
end
section
variable {P : Program} {ops : Array Oper} {rest : List Oper} {o : Oper} {a : Act} {Q : Exit → Act → World → Prop}
theorem wpList_insert_new {w : World} {b : Nat} {l : List (List UInt8 × Int)} {t k e : TypeId} (h : MapIs w b l) (ht : P.underlying t = some (.map k e)) (hk : P.underlying k = some .string) (hg : o.guard = none) (m x v : Operand)
    (hop : o.op = Op.insert t m x v) (s : List UInt8) (n : Int) (hm : a.eval m = .map (some b)) (hx : a.eval x = .string ⟨s.toArray⟩) (hv : a.eval v = .int .i64 n) (hn : lookM l s = none)
    (hK : ∀ w', MapIs w' b (l ++ [(s, n)]) → w.grownBy w' (some b) → wpList P ops Q rest (a.put o.dst undef) w') : wpList P ops Q (o :: rest) a w := by
  refine wpList_plain hg fun K' hK' => ?_
  obtain ⟨w', hrun, r1, r2⟩ := h.push ht hk s n hn
  unfold Oper.wp
  simp [execOp, hop, hm, hx, hv, hrun, Result.andThen]
  exact hK' _ _ (hK w' r1 r2)
theorem below_map {w0 w w' : World} {b : Nat} (h : Below w0.heap.size w0 w) (hg : w.grownBy w' (some b)) (hb : w0.heap.size ≤ b) : Below w0.heap.size w0 w' :=
  h.trans ⟨hg.os, hg.tape, hg.output, hg.size, fun k hk => hg.block k (Nat.lt_of_lt_of_le hk h.size) (fun e => by injection e with e; omega)⟩
end
end Go.Proofs.YtenecpmonodjaaaGreatDoor.PAll
