/- Arguments that are lists of nodes, or of variables: opened out of the data. -/
import Derived.Test.YtenecpmonodjaaaGreatDoorPAllx0
import Derived.Deep.Slices
import Derived.ChangeSame
import Derived.ProofKit
import Derived.OpenShut
import Derived.ShutString
import Derived.ChangeOld
import Derived.Below
import Derived.Carry
namespace Go.Proofs.YtenecpmonodjaaaGreatDoor.PAll
open Go.RowKit Go.Proofs.YtenecpmonodjaaaGreatDoorW.PrintWords Go.Proofs.YtenecpmonodjaaaGreatDoorW.PrintLast Go.Proofs.YtenecpmonodjaaaGreatDoorW.PrintMore
open Go.ChangeShapes Go.WideShapes Go.ChangeAt Go.Deep
set_option linter.unusedVariables false
set_option linter.unusedSimpArgs false
set_option maxRecDepth 100000

section
variable {H : Type} {enc : TypeId × Value → H} {w : World} {base : Nat} {spare : Nat → Bool} {held : Bool}
/-- The cells that a type is read from are those of a kind. -/
def OpK {α : Type} (d : Kd α) (enc : TypeId × Value → H) (w : World) (base : Nat) (spare : Nat → Bool) (held : Bool) (t : TypeId) : Prop :=
  ∀ (fuel : Nat) (cs : List Value) (x : DataW H × List MemPlace), DataW.trod enc Tryz.prog w base spare held fuel t cs = some x → ∃ p, d.K w p cs ∧ cs.length = d.sz
theorem opk_int (t : TypeId) (k : IntKind) (ht : Tryz.prog.underlying t = some (.int k)) : OpK (Kd.int k) enc w base spare held t := by
  intro fuel cs x h
  obtain ⟨n, rfl, rfl, _⟩ := DataW.trod_int ht h
  exact ⟨n, rfl, rfl⟩
theorem opk_string (t : TypeId) (ht : Tryz.prog.underlying t = some .string) : OpK Kd.string enc w base spare held t := by
  intro fuel cs x h
  obtain ⟨s, rfl, rfl, _⟩ := DataW.trod_string ht h
  exact ⟨s, rfl, rfl⟩
theorem opk_row {α : Type} (d : Kd α) (t e : TypeId) (ht : Tryz.prog.underlying t = some (.slice e)) (hc : Tryz.prog.cellsOf e = d.sz) (he : OpK d enc w base spare held e) (fuel : Nat) (cs : List Value) (x : DataW H × List MemPlace)
    (h : DataW.trod enc Tryz.prog w base spare held fuel t cs = some x) : ∃ A c xs, cs = [.slice A xs.length c] ∧ xs.length ≤ c ∧ d.C w A xs.length xs := by
  rcases open_slice ht h with ⟨rfl, _⟩ | ⟨a, len, cap, m, n, D, Pl, rfl, hb, hl, hm, hmm, hx, hi⟩
  · exact ⟨none, 0, [], rfl, Nat.le_refl _, rfl, Nat.zero_le _, fun h => absurd h (Nat.lt_irrefl _)⟩
  · have hlm : len ≤ m := by rw [hmm]; split <;> omega
    have key : ∀ i, i < len → ∃ p, ∃ cs', w.cells? base (a.add (i * Tryz.prog.cellsOf e)) (Tryz.prog.cellsOf e) = some cs' ∧ d.K w p cs' ∧ cs'.length = d.sz := fun i hil => by
      obtain ⟨cs', h1, h2⟩ := hi i (by omega)
      obtain ⟨p, hp, hs⟩ := he _ _ _ h2
      exact ⟨p, cs', h1, hp, hs⟩
    cases len with
    | zero => exact ⟨some a, cap, [], rfl, hl, rfl, Nat.zero_le _, fun h => absurd h (Nat.lt_irrefl _)⟩
    | succ len =>
      obtain ⟨p0, _⟩ := key 0 (by omega)
      have : Inhabited α := ⟨p0⟩
      obtain ⟨f, hf⟩ := choose_lt (p := fun i p => ∃ cs', w.cells? base (a.add (i * Tryz.prog.cellsOf e)) (Tryz.prog.cellsOf e) = some cs' ∧ d.K w p cs' ∧ cs'.length = d.sz) key
      have hlen : ((List.range (len + 1)).map f).length = len + 1 := by simp
      refine ⟨some a, cap, (List.range (len + 1)).map f, by rw [hlen], by rw [hlen]; exact hl, hlen.trans hlen.symm, by rw [hlen]; unfold maxLen at hm; omega, fun _ => ⟨a, rfl, fun j p hj => ?_⟩⟩
      have hjl : j < len + 1 := by have := (List.getElem?_eq_some_iff.1 hj).1; rw [hlen] at this; exact this
      rw [List.getElem?_map, List.getElem?_range hjl] at hj
      injection hj with hj
      subst hj
      obtain ⟨cs', h1, h2, h3⟩ := hf j hjl
      refine ⟨cs', h3, h2, fun i u hu => ?_⟩
      obtain ⟨_, hcl, hat⟩ := World.cells?_some h1
      have hil : i < cs'.length := (List.getElem?_eq_some_iff.1 hu).1
      rw [hc] at hat hcl
      have := hat i (by omega)
      rw [← Go.Deep.add_add, this]
      exact hu
theorem opk_slice {α : Type} (d : Kd α) (t e : TypeId) (ht : Tryz.prog.underlying t = some (.slice e)) (hc : Tryz.prog.cellsOf e = d.sz) (he : OpK d enc w base spare held e) : OpK (Kd.slice e d) enc w base spare held t := by
  intro fuel cs x h
  obtain ⟨A, c, xs, rfl, hl, hC⟩ := opk_row d t e ht hc he fuel cs x h
  exact ⟨xs, ⟨A, c, rfl, hl, hC⟩, rfl⟩
theorem cells_int : Tryz.prog.cellsOf 3 = 1 := by kernel_rfl
theorem cells_string : Tryz.prog.cellsOf 9 = 1 := by kernel_rfl
theorem cells_ints : Tryz.prog.cellsOf 54 = 1 := by kernel_rfl
theorem cells_Node : Tryz.prog.cellsOf 57 = 4 := by kernel_rfl
theorem cells_Var : Tryz.prog.cellsOf 36 = 2 := by kernel_rfl
theorem opk_Node : OpK k57 enc w base spare held 57 := by
  intro fuel cs x h
  obtain ⟨ys, n, rfl, _, hl, hy, hf⟩ := DataW.trod_struct Tryz.underlying57 h
  rw [cells_Node] at hl
  match cs, hl with
  | [c0, c1, c2, c3], _ =>
    have hy' : ys.length = 4 := hy
    match ys, hy' with
    | [y0, y1, y2, y3], _ =>
      have h0 : DataW.trod enc Tryz.prog w base spare held n 3 (([c0, c1, c2, c3].drop 0).take (Tryz.prog.cellsOf 3)) = some y0 := hf 0 _ rfl
      rw [cells_int] at h0
      have h1 : DataW.trod enc Tryz.prog w base spare held n 3 (([c0, c1, c2, c3].drop 1).take (Tryz.prog.cellsOf 3)) = some y1 := hf 1 _ rfl
      rw [cells_int] at h1
      have h2 : DataW.trod enc Tryz.prog w base spare held n 9 (([c0, c1, c2, c3].drop 2).take (Tryz.prog.cellsOf 9)) = some y2 := hf 2 _ rfl
      rw [cells_string] at h2
      have h3 : DataW.trod enc Tryz.prog w base spare held n 54 (([c0, c1, c2, c3].drop 3).take (Tryz.prog.cellsOf 54)) = some y3 := hf 3 _ rfl
      rw [cells_ints] at h3
      obtain ⟨p0, hp0, _⟩ := opk_int 3 .i64 Tryz.underlying3 _ _ _ h0
      obtain ⟨p1, hp1, _⟩ := opk_int 3 .i64 Tryz.underlying3 _ _ _ h1
      obtain ⟨p2, hp2, _⟩ := opk_string 9 Tryz.underlying9 _ _ _ h2
      obtain ⟨p3, hp3, _⟩ := opk_slice (Kd.int .i64) 54 3 Tryz.underlying54 cells_int (opk_int 3 .i64 Tryz.underlying3) _ _ _ h3
      have e0 : [c0] = [Value.int .i64 p0] := hp0
      have e1 : [c1] = [Value.int .i64 p1] := hp1
      have e2 : [c2] = [Value.string p2] := hp2
      obtain ⟨A, c, e3, hl3, hC3⟩ := hp3
      have e3' : [c3] = [Value.slice A p3.length c] := e3
      injection e0 with e0
      injection e1 with e1
      injection e2 with e2
      injection e3' with e3'
      subst e0; subst e1; subst e2; subst e3'
      exact ⟨⟨p0, p1, p2, p3⟩, k57_mk _ _ hl3 hC3, rfl⟩
theorem opk_Var : OpK k36 enc w base spare held 36 := by
  intro fuel cs x h
  obtain ⟨ys, n, rfl, _, hl, hy, hf⟩ := DataW.trod_struct Tryz.underlying36 h
  rw [cells_Var] at hl
  match cs, hl with
  | [c0, c1], _ =>
    have hy' : ys.length = 2 := hy
    match ys, hy' with
    | [y0, y1], _ =>
      have h0 : DataW.trod enc Tryz.prog w base spare held n 9 (([c0, c1].drop 0).take (Tryz.prog.cellsOf 9)) = some y0 := hf 0 _ rfl
      rw [cells_string] at h0
      have h1 : DataW.trod enc Tryz.prog w base spare held n 3 (([c0, c1].drop 1).take (Tryz.prog.cellsOf 3)) = some y1 := hf 1 _ rfl
      rw [cells_int] at h1
      obtain ⟨p0, hp0, _⟩ := opk_string 9 Tryz.underlying9 _ _ _ h0
      obtain ⟨p1, hp1, _⟩ := opk_int 3 .i64 Tryz.underlying3 _ _ _ h1
      have e0 : [c0] = [Value.string p0] := hp0
      have e1 : [c1] = [Value.int .i64 p1] := hp1
      injection e0 with e0
      injection e1 with e1
      subst e0; subst e1
      exact ⟨⟨p0, p1⟩, k36_mk _ _, rfl⟩
/-- An argument that is a list of nodes. -/
theorem open_Expr {v : Value} {d : DataW H} {p : List MemPlace} {b : Nat} (hv : Value.okWide Tryz.prog w .any b 23 v) (h : DataW.Trod enc Tryz.prog w base spare held 23 v d p) : ∃ A c xs, v = .slice A xs.length c ∧ xs.length ≤ c ∧ Kd.C k57 w A xs.length xs := by
  obtain ⟨fuel, hf⟩ := h
  obtain ⟨A, n, c, rfl⟩ := okWide_slice Tryz.underlying23 hv
  obtain ⟨A', c', xs, he, hl, hC⟩ := opk_row k57 23 57 Tryz.underlying23 cells_Node opk_Node fuel _ _ hf
  have he' : [Value.slice A n c] = [Value.slice A' xs.length c'] := he
  injection he' with he'
  exact ⟨A', c', xs, he', hl, hC⟩
theorem open_Vars {v : Value} {d : DataW H} {p : List MemPlace} {b : Nat} (hv : Value.okWide Tryz.prog w .any b 24 v) (h : DataW.Trod enc Tryz.prog w base spare held 24 v d p) : ∃ A c xs, v = .slice A xs.length c ∧ xs.length ≤ c ∧ Kd.C k36 w A xs.length xs := by
  obtain ⟨fuel, hf⟩ := h
  obtain ⟨A, n, c, rfl⟩ := okWide_slice Tryz.underlying24 hv
  obtain ⟨A', c', xs, he, hl, hC⟩ := opk_row k36 24 36 Tryz.underlying24 cells_Var opk_Var fuel _ _ hf
  have he' : [Value.slice A n c] = [Value.slice A' xs.length c'] := he
  injection he' with he'
  exact ⟨A', c', xs, he', hl, hC⟩
end
end Go.Proofs.YtenecpmonodjaaaGreatDoor.PAll
