/- (*strings.Builder).copyCheck, WriteString, walked by hand (the shelf's proofs, turned to this dump). -/
import Derived.Test.YtenecpmonodjaaaDoorBase
import Derived.Shelf.Strings.BuilderK
import Derived.Test.YtenecpmonodjaaaDoorTextP
import Derived.Lib.OthersKept
import Derived.Test.YtenecpmonodjaaaDoorShelfT
import Derived.Test.YtenecpmonodjaaaDoorHParser
import Derived.Lib.SmallJoins
import Derived.WalkKit
import Derived.Laws.EntriesVeiled
namespace Go.Proofs.YtenecpmonodjaaaDoor.PAll
open Go.RowKit Go.Proofs.YtenecpmonodjaaaDoorW.PrintWords Go.Proofs.YtenecpmonodjaaaDoorW.PrintLast Go.Proofs.YtenecpmonodjaaaDoorW.PrintMore
open Go.Shelf
set_option linter.unusedVariables false
set_option linter.unusedSimpArgs false

theorem sizeBuilder : (Tryd.prog.info? 62).map (·.size) = some 2 := by kernel_rfl
theorem liesBuilder : liesAt Tryd.prog Tryd.prog.depth 62 (2 / Tryd.prog.cellsOf 62) 0 62 1 = true := by kernel_rfl
theorem infoByte : (Tryd.prog.info? 5).map (fun i => (i.zero, i.size, i.bytes)) = some (some (.int .u8 0), 1, 1) := by kernel_rfl

set_option maxHeartbeats 1000000 in
set_option maxRecDepth 100000 in
theorem copyCheck_used (b : Nat) (w : World) (h0 : w.cell? ⟨b, 0, none⟩ = some (.pointer (some ⟨b, 0, none⟩))) :
    Calls Tryd.prog 47 #[.pointer (some ⟨b, 0, none⟩)] w fun e w' => e = .returned (.tuple #[]) ∧ w' = w := by
  obtain ⟨j, hj, _⟩ := Option.map_eq_some_iff.1 sizeBuilder
  go_enter Tryd.func47, Tryd.ntmps47
  go_wp2
  rw [Lib.run_neq_ptr_same w _ Tryd.underlying59 hj]
  go_wp2
  go_end0
  exact ⟨rfl, rfl⟩
set_option maxHeartbeats 1000000 in
set_option maxRecDepth 100000 in
theorem copyCheck_fresh (b : Nat) (w : World) (h0 : w.cell? ⟨b, 0, none⟩ = some (.pointer none)) (hsh : w.shape? b = some (62, 2)) (hfz : w.frozen? ⟨b, 0, none⟩ = false) :
    Calls Tryd.prog 47 #[.pointer (some ⟨b, 0, none⟩)] w fun e w' => e = .returned (.tuple #[]) ∧ w' = w.setCell ⟨b, 0, none⟩ (.pointer (some ⟨b, 0, none⟩)) := by
  obtain ⟨j, hj, hjs⟩ := Option.map_eq_some_iff.1 sizeBuilder
  go_enter Tryd.func47, Tryd.ntmps47
  go_wp2
  rw [Lib.run_to_unsafe w ⟨b, 0, none⟩ Tryd.underlying59 Tryd.underlying101 hj (by rw [hjs]; decide) hsh (Nat.zero_lt_succ 1)]
  simp only [Result.andThen]
  rw [Oper.upon_value]
  go_wp2
  rw [run_callFunc_extern Tryd.func59 (by kernel_rfl) (by kernel_rfl) (by kernel_rfl) (e := Extern.AbiNoEscape.same) (by kernel_rfl)]
  rw [Lib.run_noEscape]
  simp only [Result.andThen]
  rw [Oper.upon_value]
  go_wp2
  rw [Lib.run_from_unsafe w ⟨b, 0, none⟩ Tryd.underlying101 Tryd.underlying59 hj hsh liesBuilder]
  simp only [Result.andThen]
  rw [Oper.upon_value]
  go_wp2
  go_end0
  exact ⟨rfl, rfl⟩
def CopyP (B b : Nat) (bs : List Value) (w : World) (e : Ending) (w' : World) : Prop := e = .returned (.tuple #[]) ∧ (Lib.BuilderAtF 62 5 B b (.pointer (some ⟨b, 0, none⟩)) bs w' ∧ Below B w w' ∧ Lib.OthersKept 5 (some b) w w')
theorem copyCheck_k (B b : Nat) (bs : List Value) (w : World) (h : Lib.IsBuilderF 62 5 B b bs w) : Calls Tryd.prog 47 #[.pointer (some ⟨b, 0, none⟩)] w (CopyP B b bs w) := by
  rcases h with h | h
  · refine (copyCheck_fresh b w h.cell0 h.shape h.frozen0).mono ?_
    rintro e w' ⟨rfl, rfl⟩
    exact ⟨rfl, h.used _, (Below.refl B w).setCell (p := ⟨b, 0, none⟩) h.1 _, (Lib.OthersKept.refl _ _ w).setCell ⟨b, 0, none⟩ rfl _⟩
  · refine (copyCheck_used b w h.cell0).mono ?_
    rintro e w' ⟨rfl, rfl⟩
    exact ⟨rfl, h, Below.refl B _, Lib.OthersKept.refl _ _ _⟩
def WriteP (B b : Nat) (bs : List Value) (s : ByteArray) (w : World) (e : Ending) (w' : World) : Prop := e = .returned (.tuple #[.int .i64 s.size, .nilIface]) ∧ (Lib.BuilderAtF 62 5 B b (.pointer (some ⟨b, 0, none⟩)) (bs ++ Lib.strCells s) w' ∧ Below B w w' ∧ Lib.OthersKept 5 (some b) w w')
set_option maxHeartbeats 2000000 in
set_option maxRecDepth 100000 in
theorem writeString_k (B b : Nat) (bs : List Value) (s : ByteArray) (w : World) (h : Lib.IsBuilderF 62 5 B b bs w) (hlen : bs.length + s.size ≤ 140737488355328) (hBw : B ≤ w.heap.size) :
    Calls Tryd.prog 30 #[.pointer (some ⟨b, 0, none⟩), .string s] w (WriteP B b bs s w) := by
  obtain ⟨i0, hi, hz0, hz1, hz2⟩ := info_parts infoByte
  go_enter Tryd.func30, Tryd.ntmps30
  go_wp2_with fail
  refine (copyCheck_k B b bs _ h).mono ?_
  rintro e w1 ⟨rfl, h1, hb1, hk1⟩
  obtain ⟨hB, v, hbk, hown, hne⟩ := h1
  have c0 : w1.cell? ⟨b, 0, none⟩ = some (.pointer (some ⟨b, 0, none⟩)) := by rw [Lib.cell_of_heap hbk]; rfl
  have c1 : w1.cell? ⟨b, 1, none⟩ = some v := by rw [Lib.cell_of_heap hbk]; rfl
  go_wp2_with (at_builtin; refine Lib.wpList_append_own_stringF _ rfl _ _ 60 9 rfl B 5 i0 Tryd.underlying60 Tryd.underlying9 hi hz0 hz1 hz2 _ _ _ rfl hown s rfl ?c3 ?c4 ?c5 ?_)
  case c3 => unfold maxLen; omega
  case c4 => omega
  case c5 => have := hb1.size; omega
  intro v' w2 hown' hgrow _
  have hlt : b < w1.heap.size := by
    rcases Nat.lt_or_ge b w1.heap.size with h' | h'
    · exact h'
    · simp [Array.getElem?_eq_none h'] at hbk
  have hb2 : w2.heap[b]? = some (.cells #[.pointer (some ⟨b, 0, none⟩), v] 62 (0, 0)) := by
    rw [hgrow.block b hlt (fun e => hne e.symm)]
    exact hbk
  have d0 : w2.cell? ⟨b, 0, none⟩ = some (.pointer (some ⟨b, 0, none⟩)) := by rw [Lib.cell_of_heap hb2]; rfl
  have d1 : w2.cell? ⟨b, 1, none⟩ = some v := by rw [Lib.cell_of_heap hb2]; rfl
  have f1 : w2.frozen? ⟨b, 1, none⟩ = false := Lib.frozen_of_heap hb2 1
  obtain ⟨ao, n', cap, rfl⟩ : ∃ ao n' cap, v' = .slice ao n' cap := by
    rcases hown'.2 with ⟨hv, _⟩ | ⟨g, cap, cur, fz, hv, _⟩
    · exact ⟨_, _, _, hv⟩
    · exact ⟨_, _, _, hv⟩
  go_wp2
  go_ret2
  refine ⟨rfl, ?_, ?_, (hk1.grown hgrow (Lib.ownsRowF_kind hown)).setCell ⟨b, 1, none⟩ rfl _⟩
  · exact Lib.BuilderAtF.put (T := 62) (e := 5) hB hb2 (bs' := bs ++ Lib.strCells s) (by simpa [Lib.strCells_length] using hown') (by decide)
  · exact (hb1.grown hgrow (by have := hb1.size; omega) (fun k hk => (hown.lt k hk).1)).setCell (p := ⟨b, 1, none⟩) hB _
set_option maxHeartbeats 2000000 in
set_option maxRecDepth 100000 in
theorem writeString_d (B b : Nat) (bs : List Value) (s : ByteArray) (w : World) (h : Lib.IsBuilderF 62 5 B b bs w) (u : FrameMode) (hlen : bs.length + s.size ≤ 140737488355328) (hBw : B ≤ w.heap.size) :
    CallsD Tryd.prog 30 #[.pointer (some ⟨b, 0, none⟩), .string s] u w fun e u' w' => u' = u ∧ WriteP B b bs s w e w' := by
  obtain ⟨i0, hi, hz0, hz1, hz2⟩ := info_parts infoByte
  go_enter_d Tryd.func30, Tryd.ntmps30
  go_wp2_with fail
  refine (copyCheck_k B b bs _ h).mono ?_
  rintro e w1 ⟨rfl, h1, hb1, hk1⟩
  obtain ⟨hB, v, hbk, hown, hne⟩ := h1
  have c0 : w1.cell? ⟨b, 0, none⟩ = some (.pointer (some ⟨b, 0, none⟩)) := by rw [Lib.cell_of_heap hbk]; rfl
  have c1 : w1.cell? ⟨b, 1, none⟩ = some v := by rw [Lib.cell_of_heap hbk]; rfl
  go_wp2_with (at_builtin; refine Lib.wpList_append_own_stringF _ rfl _ _ 60 9 rfl B 5 i0 Tryd.underlying60 Tryd.underlying9 hi hz0 hz1 hz2 _ _ _ rfl hown s rfl ?c3 ?c4 ?c5 ?_)
  case c3 => unfold maxLen; omega
  case c4 => omega
  case c5 => have := hb1.size; omega
  intro v' w2 hown' hgrow _
  have hlt : b < w1.heap.size := by
    rcases Nat.lt_or_ge b w1.heap.size with h' | h'
    · exact h'
    · simp [Array.getElem?_eq_none h'] at hbk
  have hb2 : w2.heap[b]? = some (.cells #[.pointer (some ⟨b, 0, none⟩), v] 62 (0, 0)) := by
    rw [hgrow.block b hlt (fun e => hne e.symm)]
    exact hbk
  have d0 : w2.cell? ⟨b, 0, none⟩ = some (.pointer (some ⟨b, 0, none⟩)) := by rw [Lib.cell_of_heap hb2]; rfl
  have d1 : w2.cell? ⟨b, 1, none⟩ = some v := by rw [Lib.cell_of_heap hb2]; rfl
  have f1 : w2.frozen? ⟨b, 1, none⟩ = false := Lib.frozen_of_heap hb2 1
  obtain ⟨ao, n', cap, rfl⟩ : ∃ ao n' cap, v' = .slice ao n' cap := by
    rcases hown'.2 with ⟨hv, _⟩ | ⟨g, cap, cur, fz, hv, _⟩
    · exact ⟨_, _, _, hv⟩
    · exact ⟨_, _, _, hv⟩
  go_wp2
  go_ret2
  refine ⟨rfl, ?_, ?_, (hk1.grown hgrow (Lib.ownsRowF_kind hown)).setCell ⟨b, 1, none⟩ rfl _⟩
  · exact Lib.BuilderAtF.put (T := 62) (e := 5) hB hb2 (bs' := bs ++ Lib.strCells s) (by simpa [Lib.strCells_length] using hown') (by decide)
  · exact (hb1.grown hgrow (by have := hb1.size; omega) (fun k hk => (hown.lt k hk).1)).setCell (p := ⟨b, 1, none⟩) hB _
end Go.Proofs.YtenecpmonodjaaaDoor.PAll

/- Words on a builder of strings that a call has made, and on the closure that writes an expression into it. -/
namespace Go.Proofs.YtenecpmonodjaaaDoor.PAll
open Go.RowKit Go.Proofs.YtenecpmonodjaaaDoorW.PrintWords Go.Proofs.YtenecpmonodjaaaDoorW.PrintLast Go.Proofs.YtenecpmonodjaaaDoorW.PrintMore
open Go.Proofs.YtenecpmonodjaaaDoor.Obs
set_option linter.unusedVariables false
set_option linter.unusedSimpArgs false

theorem builderF_below {T e : TypeId} {B b : Nat} {bs : List Value} {w w' : World} (h : Lib.IsBuilderF T e B b bs w) (hb : Below w.heap.size w w') : Lib.IsBuilderF T e B b bs w' := by
  have key : ∀ p, Lib.BuilderAtF T e B b p bs w → Lib.BuilderAtF T e B b p bs w' := by
    rintro p ⟨h1, v, h2, h3, h4⟩
    refine ⟨h1, v, blk_below h2 hb, ⟨h3.1, ?_⟩, h4⟩
    rcases h3.2 with hn | ⟨g, cap, cur, fz, e1, e2, e3, r⟩
    · exact .inl hn
    · exact .inr ⟨g, cap, cur, fz, e1, e2, (hb.block g (Array.getElem?_eq_some_iff.1 e3).1).trans e3, r⟩
  exact h.elim (fun x => .inl (key _ x)) (fun x => .inr (key _ x))
theorem builderF_new (w : World) : Lib.IsBuilderF 62 5 w.heap.size w.heap.size [] (w.alloc (.cells #[.pointer none, .slice none 0 0] 62)) :=
  .inl ⟨Nat.le_refl _, .slice none 0 0, blk_new w _, World.ownsRowF_nil _ _ _ _, by simp [Value.ownBlock]⟩
/-- Only the builder in block g and its bytes have turned, and new blocks. -/
structure WMove (g : Nat) (w w' : World) : Prop where
  below : Below (g) w w'
  kept : Lib.OthersKept 5 (some (g)) w w'
theorem below_less {B C : Nat} {w w' : World} (h : Below B w w') (hC : C ≤ B) : Below C w w' := ⟨h.os, h.tape, h.output, h.size, fun k hk => h.block k (Nat.lt_of_lt_of_le hk hC)⟩
namespace WMove
variable {g : Nat} {w w1 w2 : World}
theorem refl (g : Nat) (w : World) : WMove g w w := ⟨Below.refl _ _, Lib.OthersKept.refl _ _ _⟩
theorem trans (h : WMove g w w1) (k : WMove g w1 w2) : WMove g w w2 := ⟨h.below.trans ⟨k.below.os, k.below.tape, k.below.output, k.below.size, fun i hi => k.below.block i hi⟩, h.kept.trans k.kept⟩
theorem of (h : Below w.heap.size w w1) (hg : g ≤ w.heap.size) : WMove g w w1 := ⟨below_less h hg, fun k o hk _ _ => (h.block k (Array.getElem?_eq_some_iff.1 hk).1).trans hk⟩
theorem drew (h : WMove g w w1) : WMove g w w1.drew := ⟨h.below.drew, h.kept.drew⟩
theorem blk (h : WMove g w w1) {k : Nat} {cs : Array Value} {t : TypeId} {fz : Nat × Nat} (hk : w.heap[k]? = some (.cells cs t fz)) (hne : k ≠ g) (ht : t ≠ 5) : w1.heap[k]? = some (.cells cs t fz) :=
  h.kept k _ hk (fun e => hne (by injection e)) (fun c fz' e => by injection e with _ e _; exact ht e)
end WMove
/-- The closure's world: the nodes, the builder (acc: what it holds), the closure itself. -/
structure TSt (w0 : World) (ge : Nat) (A : Option Addr) (n cap : Nat) (acc : List UInt8) (w : World) : Prop where
  gel : ge < w0.heap.size
  below : Below w0.heap.size w0 w
  hge : w.heap[ge]? = some (.cells #[.slice A n cap] 23 (0, 0))
  bd : Lib.IsBuilderF 62 5 (w0.heap.size) (w0.heap.size) (Lib.byteCells acc) w
  gw : w.heap[w0.heap.size + 1]? = some (.cells #[.func (.func 28) #[] #[.pointer (some ⟨ge, 0, none⟩), .pointer (some ⟨w0.heap.size, 0, none⟩), .pointer (some ⟨w0.heap.size + 1, 0, none⟩)]] 63 (0, 0))
namespace TSt
variable {w0 w w1 : World} {ge : Nat} {A : Option Addr} {n cap : Nat} {acc acc' : List UInt8}
theorem lt (h : TSt w0 ge A n cap acc w) : w0.heap.size + 1 < w.heap.size := (Array.getElem?_eq_some_iff.1 h.gw).1
theorem next (h : TSt w0 ge A n cap acc w) (hm : WMove w0.heap.size w w1) (hb : Lib.IsBuilderF 62 5 (w0.heap.size) (w0.heap.size) (Lib.byteCells acc') w1) : TSt w0 ge A n cap acc' w1 :=
  ⟨h.gel, h.below.trans hm.below, hm.blk h.hge (by have := h.gel; omega) (by decide), hb, hm.blk h.gw (by omega) (by decide)⟩
theorem step (h : TSt w0 ge A n cap acc w) (hb : Below w.heap.size w w1) : TSt w0 ge A n cap acc w1 := h.next (WMove.of hb (by have := h.lt; omega)) (builderF_below h.bd hb)
theorem move (h : TSt w0 ge A n cap acc w) (hb : Below w.heap.size w w1) : WMove w0.heap.size w w1 := WMove.of hb (by have := h.lt; omega)
theorem cells (h : TSt w0 ge A n cap acc w) : w.cell? ⟨ge, 0, none⟩ = some (.slice A n cap) ∧ w.cell? ⟨w0.heap.size + 1, 0, none⟩ = some (.func (.func 28) #[] #[.pointer (some ⟨ge, 0, none⟩), .pointer (some ⟨w0.heap.size, 0, none⟩), .pointer (some ⟨w0.heap.size + 1, 0, none⟩)]) :=
  ⟨(blk_cell h.hge 0).trans rfl, (blk_cell h.gw 0).trans rfl⟩
end TSt
def WsP (w0 : World) (ge : Nat) (A : Option Addr) (n cap : Nat) (acc : List UInt8) (s : ByteArray) (w : World) (e : Ending) (w' : World) : Prop :=
  e = .returned (.tuple #[.int .i64 s.size, .nilIface]) ∧ TSt w0 ge A n cap (acc ++ s.data.toList) w' ∧ WMove w0.heap.size w w'
theorem ws_calls (w0 : World) (ge : Nat) (A : Option Addr) (n cap : Nat) (acc : List UInt8) (s : ByteArray) (w : World) (h : TSt w0 ge A n cap acc w) (hl : acc.length + s.data.toList.length ≤ 100000000) :
    Calls Tryd.prog 30 #[.pointer (some ⟨w0.heap.size, 0, none⟩), .string s] w (WsP w0 ge A n cap acc s w) := by
  have hs : s.size = s.data.toList.length := by rw [Array.length_toList]; rfl
  refine (writeString_k (w0.heap.size) (w0.heap.size) (Lib.byteCells acc) s w h.bd (by rw [Lib.byteCells_length]; omega) (by have := h.lt; omega)).mono ?_
  rintro e w' ⟨rfl, h1, h2, h3⟩
  have hm : WMove w0.heap.size w w' := ⟨h2, h3⟩
  refine ⟨rfl, h.next hm (.inr ?_), hm⟩
  rw [Lib.byteCells_append, ← Lib.strCells_eq]
  exact h1
theorem ws_d (w0 : World) (ge : Nat) (A : Option Addr) (n cap : Nat) (acc : List UInt8) (s : ByteArray) (w : World) (h : TSt w0 ge A n cap acc w) (u : FrameMode) (hl : acc.length + s.data.toList.length ≤ 100000000) :
    CallsD Tryd.prog 30 #[.pointer (some ⟨w0.heap.size, 0, none⟩), .string s] u w fun e u' w' => u' = u ∧ WsP w0 ge A n cap acc s w e w' := by
  have hs : s.size = s.data.toList.length := by rw [Array.length_toList]; rfl
  refine (writeString_d (w0.heap.size) (w0.heap.size) (Lib.byteCells acc) s w h.bd u (by rw [Lib.byteCells_length]; omega) (by have := h.lt; omega)).mono ?_
  rintro e u' w' ⟨rfl, rfl, h1, h2, h3⟩
  have hm : WMove w0.heap.size w w' := ⟨h2, h3⟩
  refine ⟨rfl, rfl, h.next hm (.inr ?_), hm⟩
  rw [Lib.byteCells_append, ← Lib.strCells_eq]
  exact h1
def TextP (w0 : World) (ge : Nat) (A : Option Addr) (n cap : Nat) (acc s : List UInt8) (w : World) (e : Ending) (w' : World) : Prop :=
  e = .returned (.tuple #[]) ∧ TSt w0 ge A n cap (acc ++ s) w' ∧ WMove w0.heap.size w w'
/-- The closure writes the tree t, whose root is node i. -/
def WrOk (w0 : World) (ge : Nat) (A : Option Addr) (n cap : Nat) (i : Int) (t : T) : Prop := ∀ (l : Int) (acc : List UInt8) (w : World), 1 ≤ l → l ≤ 4 → acc.length + (t.txt l).length ≤ 1000000 → TSt w0 ge A n cap acc w →
  Calls Tryd.prog 28 #[.int .i64 i, .int .i64 l, .pointer (some ⟨ge, 0, none⟩), .pointer (some ⟨w0.heap.size, 0, none⟩), .pointer (some ⟨w0.heap.size + 1, 0, none⟩)] w (TextP w0 ge A n cap acc (t.txt l) w)
end Go.Proofs.YtenecpmonodjaaaDoor.PAll

/- expr.Text's closure, walked by hand. -/
namespace Go.Proofs.YtenecpmonodjaaaDoor.PAll
open Go.RowKit Go.Proofs.YtenecpmonodjaaaDoorW.PrintWords Go.Proofs.YtenecpmonodjaaaDoorW.PrintLast Go.Proofs.YtenecpmonodjaaaDoorW.PrintMore
open Go.Proofs.YtenecpmonodjaaaDoor.Obs
set_option linter.unusedVariables false
set_option linter.unusedSimpArgs false

def TabP (w : World) : Prop := Lib.TabIs Tryd.prog w "internal/strconv.uint64pow10" .u64 Lib.pow10Tab
theorem tab_g : (Tryd.prog.globalNamed "internal/strconv.uint64pow10").isSome = true := by kernel_rfl
theorem TabP.below {w w' : World} (h : TabP w) (hb : Below w.heap.size w w') : TabP w' := by
  obtain ⟨g, hg⟩ := Option.isSome_iff_exists.1 tab_g
  exact Joins.tab_stays hg h hb (Nat.le_refl _)
theorem below_grow (w : World) (k : Nat) (os : Array Obj) : Below w.heap.size w (Go.Sort.grow (w.drewN k) os) := by
  refine ⟨rfl, rfl, rfl, ?_, fun i hi => ?_⟩
  · simp [Go.Sort.grow, World.drewN]
  · simp only [Go.Sort.grow, World.drewN]
    rw [Array.getElem?_append_left hi]
theorem text1_results (a b : Array Value) : results Tryd.f28 a = results Tryd.f28 b := by
  unfold results
  rw [Tryd.results28]
  simp
theorem hq_text {R : Ending → World → Prop} {i : Option Nat} {v : Value} {c : List PanicEntry} {a : Act} {w : World} (h : Leaves Tryd.prog Tryd.f28 (a.put i v).tmps R (a.put i v).defers (.panicking c) w) : Leaves Tryd.prog Tryd.f28 a.tmps R a.defers (.panicking c) w := by
  cases i with
  | none => exact h
  | some i => exact leaves_congr (text1_results _ _) _ _ _ h
/-- The arguments of a call in canonical text. -/
def argsB (nm : List UInt8) : Bool → List T → List UInt8
  | _, [] => []
  | true, t :: r => nm ++ 40 :: (t.body ++ argsB nm false r)
  | false, t :: r => 44 :: 32 :: (t.body ++ argsB nm false r)
theorem argsB_nil (nm : List UInt8) (b : Bool) : argsB nm b [] = [] := by cases b <;> rfl
theorem drop_get {α : Type} (l : List α) (k : Nat) (h : k < l.length) : ∃ t, l[k]? = some t ∧ l.drop k = t :: l.drop (k + 1) := ⟨l[k], List.getElem?_eq_getElem h, List.drop_eq_getElem_cons h⟩
/-- What the closure writes for a node that is neither infix nor a minus. -/
def dflt (x : S53) (ts : List T) : List UInt8 := x.f2.data.toList ++ (if x.f0 = 1 then Lib.itoa x.f1 else []) ++ argsB (nameM functionsL x.f0) true ts ++ (if ts = [] then [] else [41])

set_option maxHeartbeats 4000000 in
set_option maxRecDepth 100000 in
theorem text_dflt (w0 : World) (ge : Nat) (A : Option Addr) (cap : Nat) (xs : List S53) (hC : Kd.C k53 w0 A xs.length xs) (hcap : xs.length ≤ cap) (hT : TabP w0) (i : Nat) (hi : i < xs.length) (hl : xs.length ≤ 300) (ts : List T)
    (hs : strengthZ (rd_T53 xs (i : Int)).f0 = 5) (hk : (rd_T53 xs (i : Int)).f3.length = ts.length) (ht : ts.length ≤ 3) (hop : ts ≠ [] → (rd_T53 xs (i : Int)).f0 = 7 ∨ (rd_T53 xs (i : Int)).f0 = 8 ∨ (rd_T53 xs (i : Int)).f0 = 9)
    (hn : 0 ≤ (rd_T53 xs (i : Int)).f1 ∧ (rd_T53 xs (i : Int)).f1 ≤ 1000000)
    (IH : ∀ (j : Nat) (t : T), ts[j]? = some t → WrOk w0 ge A xs.length cap ((rd_T53 xs (i : Int)).f3.getD j 0) t) (l : Int) (acc : List UInt8) (w : World) (hl1 : 1 ≤ l) (hl4 : l ≤ 4)
    (hacc : acc.length + (dflt (rd_T53 xs (i : Int)) ts).length ≤ 1000000) (hS : TSt w0 ge A xs.length cap acc w) :
    Calls Tryd.prog 28 #[.int .i64 i, .int .i64 l, .pointer (some ⟨ge, 0, none⟩), .pointer (some ⟨w0.heap.size, 0, none⟩), .pointer (some ⟨w0.heap.size + 1, 0, none⟩)] w (TextP w0 ge A xs.length cap acc (dflt (rd_T53 xs (i : Int)) ts) w) := by
  obtain ⟨ce, cw⟩ := hS.cells
  obtain ⟨ad, A3, c3, rfl, z0, z1, z2, z3, hl3, hz3⟩ := at_T53 hC (i : Int) (by omega) (by omega)
  rw [Int.toNat_natCast] at z0 z1 z2 z3
  have k0 := (hS.below.cell (World.block_lt_of_cell? _ _ z0)).trans z0
  have k1 := (hS.below.cell (World.block_lt_of_cell? _ _ z1)).trans z1
  have k2 := (hS.below.cell (World.block_lt_of_cell? _ _ z2)).trans z2
  have k3 := (hS.below.cell (World.block_lt_of_cell? _ _ z3)).trans z3
  clear z0 z1 z2 z3
  generalize rd_T53 xs (i : Int) = x at *
  have HK := Lib.hid hk
  have HD := Lib.hid (show dflt x ts = x.f2.data.toList ++ (if x.f0 = 1 then Lib.itoa x.f1 else []) ++ argsB (nameM functionsL x.f0) true ts ++ (if ts = [] then [] else [41]) from rfl)
  have hnm := functions_len x.f0
  clear hk
  go_enter_defers Tryd.func28, Tryd.ntmps28
  go_wp2_with fail
  refine (strength_calls _ _).mono ?_
  rintro e w2 ⟨rfl, rfl⟩
  rw [hs]
  have hb5 : decide ((5 : Int) < l) = false := decide_eq_false (by omega)
  have hG : (w.alloc (.cells #[.int .i64 x.f0, .int .i64 x.f1, .string x.f2, .slice A3 x.f3.length c3] 53)).heap[w.heap.size]? = some (.cells #[.int .i64 x.f0, .int .i64 x.f1, .string x.f2, .slice A3 x.f3.length c3] 53 (0, 0)) := blk_new w _
  have hSA := hS.step (below_alloc (Below.refl _ _) (.cells #[.int .i64 x.f0, .int .i64 x.f1, .string x.f2, .slice A3 x.f3.length c3] 53))
  have hMA := hS.move (below_alloc (Below.refl _ _) (.cells #[.int .i64 x.f0, .int .i64 x.f1, .string x.f2, .slice A3 x.f3.length c3] 53))
  have hgne : w.heap.size ≠ w0.heap.size := by have := hS.lt; omega
  go_wp2_with fail
  generalize w.alloc (.cells #[.int .i64 x.f0, .int .i64 x.f1, .string x.f2, .slice A3 x.f3.length c3] 53) = wA at hG hSA hMA ⊢
  clear ce cw k0 k1 k2 k3
  refine (ws_calls w0 ge (some ad) _ _ acc x.f2 wA hSA (by rw [HD.out] at hacc; simp only [List.length_append] at hacc; omega)).mono ?_
  rintro e w3 ⟨rfl, hS3, hM3⟩
  have hG3 := hM3.blk hG hgne (by decide)
  replace hM3 := hMA.trans hM3
  clear hG hSA hMA
  have n0 : w3.cell? ⟨w.heap.size, 0, none⟩ = some (.int .i64 x.f0) := (blk_cell hG3 0).trans rfl
  have n1 : w3.cell? ⟨w.heap.size, 1, none⟩ = some (.int .i64 x.f1) := (blk_cell hG3 1).trans rfl
  have n3 : w3.cell? ⟨w.heap.size, 3, none⟩ = some (.slice A3 x.f3.length c3) := (blk_cell hG3 3).trans rfl
  by_cases h1 : x.f0 = 1
  · have hts : ts = [] := Classical.byContradiction (fun h => by have := hop h; omega)
    subst hts
    have hb1 : (x.f0 == 1) = true := beq_iff_eq.2 h1
    have HD2 := Lib.hid (show dflt x [] = x.f2.data.toList ++ Lib.itoa x.f1 by rw [HD.out, if_pos h1, if_pos rfl, argsB_nil]; simp)
    have HX := Lib.hid h1
    have hlen : x.f3.length = 0 := HK.out
    have HL := Lib.hid hlen
    clear h1 hlen HD
    go_wp2_with fail
    refine (Tryd.strconv_Itoa x.f1 (by omega) (by omega) w3 ((hT.below hS3.below))).mono ?_
    rintro e w4 ⟨rfl, k, os, rfl⟩
    have hb4 := below_grow w3 k os
    generalize Go.Sort.grow (w3.drewN k) os = w4 at hb4 ⊢
    have hS4 := hS3.step hb4
    have hM4 := hM3.trans (hS3.move hb4)
    have hG4 := blk_below hG3 hb4
    clear hb4 hS3 hM3 hG3 n0 n1 n3
    go_wp2_with fail
    refine (ws_calls w0 ge (some ad) _ _ _ ⟨(Lib.itoa x.f1).toArray⟩ w4 hS4 (by rw [HD2.out] at hacc; simp only [List.length_append] at hacc ⊢; omega)).mono ?_
    rintro e w5 ⟨rfl, hS5, hM5⟩
    have hG5 := hM5.blk hG4 hgne (by decide)
    replace hM5 := hM4.trans hM5
    clear hG4 hS4 hM4
    have n3 : w5.cell? ⟨w.heap.size, 3, none⟩ = some (.slice A3 x.f3.length c3) := (blk_cell hG5 3).trans rfl
    rw [HL.out] at n3
    go_wp2_with fail
    go_loopw [36] (fun v36 wr => v36 = .int .i64 0 ∧ Aside0 (wr = w5)) (fun _ _ => 0)
    case atStart => exact ⟨rfl, ⟨rfl⟩⟩
    case round =>
      obtain ⟨rfl, he⟩ := hrel
      obtain rfl := he.out
      go_wp2
      refine ⟨.tuple #[], results_none' rfl _ _ _, rfl, ?_, hM5⟩
      rw [HD2.out, ← List.append_assoc]
      exact hS5
  · have hb1 : (x.f0 == 1) = false := beq_eq_false_iff_ne.2 h1
    have HD2 := Lib.hid (show dflt x ts = x.f2.data.toList ++ argsB (nameM functionsL x.f0) true ts ++ (if ts = [] then [] else [41]) by rw [HD.out, if_neg h1]; simp)
    have HX := Lib.hid h1
    clear h1 HD
    go_wp2_with fail
    obtain ⟨nm, hnmE⟩ : ∃ nm, nameM functionsL x.f0 = nm := ⟨_, rfl⟩
    rw [hnmE] at HD2 hnm
    have HNM := Lib.hid hnmE
    clear hnmE
    obtain ⟨Z, hZ⟩ : ∃ Z, Z = (acc ++ x.f2.data.toList) ++ argsB nm true ts := ⟨_, rfl⟩
    have HA0 := Lib.hid (show Z.length ≤ 1000000 by rw [hZ]; rw [HD2.out] at hacc; simp only [List.length_append] at hacc ⊢; omega)
    have HZ := Lib.hid hZ
    clear hacc hZ
    have HS3 := Aside0.mk hS3
    have HM3 := Aside0.mk hM3
    have HG3 := Aside0.mk hG3
    clear hS3 hM3 hG3 n0 n1 n3
    go_loopw [36] (fun v36 wr => ∃ (k : Nat) (acck : List UInt8), k ≤ ts.length ∧ v36 = .int .i64 k ∧ Aside0 (acck ++ argsB nm (decide (k = 0)) (ts.drop k) = Z) ∧
      Aside0 (TSt w0 ge (some ad) xs.length cap acck wr) ∧ Aside0 (WMove w0.heap.size w wr) ∧ Aside0 (wr.heap[w.heap.size]? = some (.cells #[.int .i64 x.f0, .int .i64 x.f1, .string x.f2, .slice A3 x.f3.length c3] 53 (0, 0)))) (fun v36 _ => ts.length - (intOf v36).toNat)
    case atStart => exact ⟨0, _, Nat.zero_le _, rfl, ⟨by rw [List.drop_zero]; exact HZ.out.symm⟩, HS3, HM3, HG3⟩
    case round =>
      clear HS3 HM3 HG3
      obtain ⟨k, acck, hk, rfl, HR, HS, HM, HG⟩ := hrel
      by_cases hlt : k < ts.length
      · have hltN : k < x.f3.length := by have := HK.out; omega
        obtain ⟨t, hgt, hdr⟩ := drop_get ts k hlt
        have hop' := hop (fun h => by rw [h] at hlt; simp at hlt)
        obtain ⟨ad3, rfl, zk⟩ := Kd.at_int hz3 (k : Int) (by omega) (by have := HK.out; omega)
        rw [rd_nat, Int.toNat_natCast] at zk
        have hIH := Lib.hid (IH k t hgt)
        generalize x.f3.getD k 0 = kid at hIH zk
        have kk := (HS.out.below.cell (World.block_lt_of_cell? _ _ zk)).trans zk
        have HG2 := HG.out
        have n0 : wr.cell? ⟨w.heap.size, 0, none⟩ = some (.int .i64 x.f0) := (blk_cell HG2 0).trans rfl
        by_cases hk0 : k = 0
        · have hkb : ((k : Int) == 0) = true := beq_iff_eq.2 (by omega)
          have HK0 := Lib.hid hk0
          clear hk0 HG2
          go_wp2_with fail
          refine start_ (n := 6) (S := (fun w' => w'.cell? ⟨w.heap.size, 0, none⟩ = some (.int .i64 x.f0))) (ds := [5]) #[false, false, false, false, false, false] (by kernel_rfl) rfl rfl n0 (fun hHeld => ?_)
          refine pure_ (i := 1) (N := some 44) (v := ?_) (a' := ?_) #[false, true, false, false, false, false] rfl rfl (by kernel_rfl) (fun _ _ _ h => hq_text h) (Or.inl ⟨by rfl, ?_⟩) ?_ ?_
          rotate_left
          · intro w'
            go_simp
            with_reducible rfl
          rotate_left
          · simp only [Act.put, List.setIfInBounds_toArray, List.set_cons_zero, List.set_cons_succ, i64_w, i32_w]
            rfl
          refine take_ (i := 2) (N := some 45) (v := ?_) (a' := ?_) #[false, true, true, false, false, false] rfl rfl (by kernel_rfl) (fun _ _ _ h => hq_text h) (Or.inl ⟨by rfl, ?_⟩) hHeld ?_ ?_
          rotate_left
          · rintro w' s0
            go_simp
            with_reducible rfl
          rotate_left
          · simp only [Act.put, List.setIfInBounds_toArray, List.set_cons_zero, List.set_cons_succ, i64_w, i32_w]
            rfl
          refine one_ (i := 0) (N := some 43) #[true, true, true, false, false, false] rfl rfl (by kernel_rfl) (by decide) (fun K hK => ?_)
          refine goes_ Tryd.func34 (by kernel_rfl) rfl #[] (by rfl) rfl rfl (by simp) ?_
          refine (functions_calls wr.drew).mono ?_
          rintro e w4 ⟨rfl, hm4, hb4⟩
          have hB4 : Below wr.heap.size wr w4 := below_step (below_drew1 (Below.refl _ _)) hb4
          have hS4 := HS.out.step hB4
          have hM4 := HM.out.trans (HS.out.move hB4)
          have hG4 := blk_below HG.out hB4
          refine ⟨_, rfl, ?_⟩
          refine hK.out _ _ ((blk_cell hG4 0).trans rfl) (fun hHeld => ?_)
          clear hK K
          refine norm_ (a' := ?_) ?_ ?_
          rotate_left
          · show Act.put _ (some 43) _ = _
            simp only [Act.put, List.setIfInBounds_toArray, List.set_cons_zero, List.set_cons_succ, i64_w, i32_w]
            rfl
          refine one_ (i := 3) (N := some 46) #[true, true, true, true, false, false] rfl rfl (by kernel_rfl) (by decide) (fun K hK => ?_)
          refine goes_ Tryd.func31 (by kernel_rfl) rfl #[.map (some wr.heap.size), .int .i64 x.f0] (by rfl) rfl rfl (by simp [Act.eval]) ?_
          have hsc := symbol_calls wr.heap.size functionsL x.f0 w4 functions_nodup hm4
          rw [HNM.out] at hsc
          refine hsc.mono ?_
          clear hsc
          rintro e w5 ⟨rfl, hb5⟩
          have hS5 := hS4.step hb5
          have hM5 := hM4.trans (hS4.move hb5)
          have hG5 := blk_below hG4 hb5
          clear hS4 hM4 hG4 hB4 hb4 hm4
          refine ⟨_, rfl, ?_⟩
          refine hK.out _ _ ((blk_cell hG5 0).trans rfl) (fun hHeld => ?_)
          clear hK K
          refine norm_ (a' := ?_) ?_ ?_
          rotate_left
          · show Act.put _ (some 46) _ = _
            simp only [Act.put, List.setIfInBounds_toArray, List.set_cons_zero, List.set_cons_succ, i64_w, i32_w]
            rfl
          have hlen : ¬ (9223372036854775807 < nm.length + 1) := by omega
          refine pure_ (i := 4) (N := some 47) (v := ?_) (a' := ?_) #[true, true, true, true, true, false] rfl rfl (by kernel_rfl) (fun _ _ _ h => hq_text h) (Or.inl ⟨by rfl, ?_⟩) ?_ ?_
          rotate_left
          · intro w'
            go_simp
            with_reducible rfl
          rotate_left
          · simp only [Act.put, List.setIfInBounds_toArray, List.set_cons_zero, List.set_cons_succ, i64_w, i32_w]
            rfl
          refine last_ (i := 5) (N := some 48) #[true, true, true, true, true, true] rfl rfl (by kernel_rfl) (by decide) (fun K hK => ?_)
          refine goes_ Tryd.func30 (by kernel_rfl) rfl #[.pointer (some ⟨w0.heap.size, 0, none⟩), .string ((⟨nm.toArray⟩ : ByteArray) ++ (⟨#[40]⟩ : ByteArray))] (by rfl) rfl rfl (by simp [Act.eval]) ?_
          have hdat : ((⟨nm.toArray⟩ : ByteArray) ++ (⟨#[40]⟩ : ByteArray)).data.toList = nm ++ [40] := by simp [ByteArray.data_append]
          have hln : acck.length + ((⟨nm.toArray⟩ : ByteArray) ++ (⟨#[40]⟩ : ByteArray)).data.toList.length ≤ 100000000 := by
            rw [hdat, List.length_append, List.length_singleton]
            have h9 := HA0.out
            rw [← HR.out, List.length_append] at h9
            omega
          refine (ws_calls w0 ge (some ad) xs.length cap acck ((⟨nm.toArray⟩ : ByteArray) ++ (⟨#[40]⟩ : ByteArray)) w5 hS5 hln).mono ?_
          rintro e w6 ⟨rfl, hS6, hM6⟩
          have hG6 := hM6.blk hG5 hgne (by decide)
          replace hM6 := hM5.trans hM6
          rw [hdat] at hS6
          have hR6 := Aside0.mk (show (acck ++ (nm ++ [40])) ++ (t.body ++ argsB nm false (ts.drop (k + 1))) = Z by rw [← HR.out, decide_eq_true HK0.out, hdr]; simp [argsB])
          clear HS HM HG HR hS5 hM5 hG5 hdat
          refine ⟨_, rfl, ?_⟩
          refine hK.out _ _ ?_
          clear hK K
          refine norm_ (a' := ?_) ?_ ?_
          rotate_left
          · show Act.put _ (some 48) _ = _
            simp only [Act.put, List.setIfInBounds_toArray, List.set_cons_zero, List.set_cons_succ, i64_w, i32_w]
            rfl
          refine done_ (by kernel_rfl) ?_
          have cw := hS6.cells.2
          go_wp2_with fail
          refine (hIH.out 1 _ w6 (by omega) (by omega) (by have h9 := HA0.out; rw [← hR6.out] at h9; rw [txt_one]; simp only [List.length_append] at h9 ⊢; omega) hS6).mono ?_
          rintro e w7 ⟨rfl, hS7, hM7⟩
          rw [txt_one] at hS7
          have hG7 := hM7.blk hG6 hgne (by decide)
          replace hM7 := hM6.trans hM7
          clear cw hM6 hG6 hS6
          go_wp2_with fail
          go_roundw
          case rel => exact ⟨k + 1, _, by omega, congrArg (Value.int .i64) (by omega), ⟨by rw [decide_eq_false (by omega), List.append_assoc]; exact hR6.out⟩, ⟨hS7⟩, ⟨hM7⟩, ⟨hG7⟩⟩
          case measure => simp [intOf]; omega
        · have hkb : ((k : Int) == 0) = false := beq_eq_false_iff_ne.2 (by omega)
          have HK0 := Lib.hid hk0
          clear hk0 HG2
          go_wp2_with fail
          refine (ws_calls w0 ge (some ad) _ _ acck ⟨#[44, 32]⟩ wr HS.out (by have := HA0.out; rw [← HR.out, List.length_append] at this; show _ + 2 ≤ _; omega)).mono ?_
          rintro e w6 ⟨rfl, hS6, hM6⟩
          have hG6 := hM6.blk HG.out hgne (by decide)
          replace hM6 := HM.out.trans hM6
          have hR6 := Aside0.mk (show (acck ++ [44, 32]) ++ (t.body ++ argsB nm false (ts.drop (k + 1))) = Z by rw [← HR.out, decide_eq_false HK0.out, hdr]; simp [argsB])
          clear HS HM HG HR
          have cw := hS6.cells.2
          go_wp2_with fail
          refine (hIH.out 1 _ w6 (by omega) (by omega) (by have h9 := HA0.out; rw [← hR6.out] at h9; rw [txt_one]; simp only [List.length_append] at h9 ⊢; omega) hS6).mono ?_
          rintro e w7 ⟨rfl, hS7, hM7⟩
          rw [txt_one] at hS7
          have hG7 := hM7.blk hG6 hgne (by decide)
          replace hM7 := hM6.trans hM7
          clear cw hM6 hG6 hS6
          go_wp2_with fail
          go_roundw
          case rel => exact ⟨k + 1, _, by omega, congrArg (Value.int .i64) (by omega), ⟨by rw [decide_eq_false (by omega), List.append_assoc]; exact hR6.out⟩, ⟨hS7⟩, ⟨hM7⟩, ⟨hG7⟩⟩
          case measure => simp [intOf]; omega
      · have hgeN : ¬ (k < x.f3.length) := by have := HK.out; omega
        have hke : k = ts.length := by omega
        have hR8 := HR.out
        rw [hke, List.drop_length, argsB_nil, List.append_nil] at hR8
        have hS8 := HS.out
        have hM8 := HM.out
        have n3 : wr.cell? ⟨w.heap.size, 3, none⟩ = some (.slice A3 x.f3.length c3) := (blk_cell HG.out 3).trans rfl
        rw [hR8] at hS8
        clear HS HM HG HR hR8 hke
        by_cases hts : ts = []
        · have hlen : x.f3.length = 0 := by have := HK.out; rw [hts] at this; exact this
          have HL := Lib.hid hlen
          have HTS := Lib.hid hts
          rw [hlen] at n3
          clear hlen hts
          go_wp2_with fail
          refine ⟨.tuple #[], results_none' rfl _ _ _, rfl, ?_, hM8⟩
          rw [HD2.out, if_pos HTS.out, List.append_nil, ← List.append_assoc, ← HZ.out]
          exact hS8
        · have hpos : 0 < x.f3.length := by have := HK.out; have : 0 < ts.length := List.length_pos_iff.2 hts; omega
          have HTS := Lib.hid hts
          clear hts
          go_wp2_with fail
          refine (ws_calls w0 ge (some ad) xs.length cap Z ⟨#[41]⟩ wr hS8 (by have := HA0.out; show _ + 1 ≤ _; omega)).mono ?_
          rintro e w9 ⟨rfl, hS9, hM9⟩
          replace hM9 := hM8.trans hM9
          go_wp2_with fail
          refine ⟨.tuple #[], results_none' rfl _ _ _, rfl, ?_, hM9⟩
          rw [HD2.out, if_neg HTS.out, ← List.append_assoc, ← List.append_assoc, ← HZ.out]
          exact hS9
end Go.Proofs.YtenecpmonodjaaaDoor.PAll

/- expr.Text's closure at a minus and at an infix operator, walked by hand. -/
namespace Go.Proofs.YtenecpmonodjaaaDoor.PAll
open Go.RowKit Go.Proofs.YtenecpmonodjaaaDoorW.PrintWords Go.Proofs.YtenecpmonodjaaaDoorW.PrintLast Go.Proofs.YtenecpmonodjaaaDoorW.PrintMore
open Go.Proofs.YtenecpmonodjaaaDoor.Obs
set_option linter.unusedVariables false
set_option linter.unusedSimpArgs false

theorem add_zero (a : Addr) : a.add 0 = a := by obtain ⟨b, o, m⟩ := a; unfold Addr.add; cases m <;> simp
theorem wrap3 : wrap64 3 = 3 := by unfold wrap64; omega
theorem wrap4 : wrap64 4 = 4 := by unfold wrap64; omega
theorem add_one (a : Addr) : a.add 1 = ⟨a.block, a.off + 1, none⟩ := by unfold Addr.add; simp
set_option maxHeartbeats 4000000 in
set_option maxRecDepth 100000 in
theorem text_neg (w0 : World) (ge : Nat) (A : Option Addr) (cap : Nat) (xs : List S53) (hC : Kd.C k53 w0 A xs.length xs) (hcap : xs.length ≤ cap) (i : Nat) (hi : i < xs.length) (hl : xs.length ≤ 300) (i1 : Int) (t : T)
    (hs : (rd_T53 xs (i : Int)).f0 = 12) (hx : (rd_T53 xs (i : Int)).f3 = [i1])
    (IH : WrOk w0 ge A xs.length cap i1 t) (l : Int) (acc : List UInt8) (w : World) (hl1 : 1 ≤ l) (hl4 : l ≤ 4)
    (hacc : acc.length + (45 :: t.txt 4).length ≤ 1000000) (hS : TSt w0 ge A xs.length cap acc w) :
    Calls Tryd.prog 28 #[.int .i64 i, .int .i64 l, .pointer (some ⟨ge, 0, none⟩), .pointer (some ⟨w0.heap.size, 0, none⟩), .pointer (some ⟨w0.heap.size + 1, 0, none⟩)] w (TextP w0 ge A xs.length cap acc (45 :: t.txt 4) w) := by
  obtain ⟨ce, cw⟩ := hS.cells
  obtain ⟨ad, A3, c3, rfl, z0, z1, z2, z3, hl3, hz3⟩ := at_T53 hC (i : Int) (by omega) (by omega)
  rw [Int.toNat_natCast] at z0 z1 z2 z3
  have k0 := (hS.below.cell (World.block_lt_of_cell? _ _ z0)).trans z0
  have k1 := (hS.below.cell (World.block_lt_of_cell? _ _ z1)).trans z1
  have k2 := (hS.below.cell (World.block_lt_of_cell? _ _ z2)).trans z2
  have k3 := (hS.below.cell (World.block_lt_of_cell? _ _ z3)).trans z3
  clear z0 z1 z2 z3
  generalize rd_T53 xs (i : Int) = x at *
  obtain ⟨f0, f1, f2, f3⟩ := x
  simp only at hx hs k0 k1 k2 k3 hl3 hz3
  subst hx
  subst hs
  obtain ⟨ad3, rfl, zk⟩ := Kd.at_int hz3 0 (by omega) (by simp)
  have kk := (hS.below.cell (World.block_lt_of_cell? _ _ zk)).trans zk
  simp only [List.length_singleton] at hz3 hl3 k3
  go_enter_defers Tryd.func28, Tryd.ntmps28
  go_wp2_with fail
  refine (strength_calls _ _).mono ?_
  rintro e w2 ⟨rfl, rfl⟩
  rw [show strengthZ 12 = 4 from rfl]
  have hb5 : decide ((4 : Int) < l) = false := decide_eq_false (by omega)
  go_wp2_with fail
  have hG : (w.alloc (.cells #[.int .i64 12, .int .i64 f1, .string f2, .slice (some ad3) 1 c3] 53)).heap[w.heap.size]? = some (.cells #[.int .i64 12, .int .i64 f1, .string f2, .slice (some ad3) 1 c3] 53 (0, 0)) := blk_new w _
  have hSA := hS.step (below_alloc (Below.refl _ _) (.cells #[.int .i64 12, .int .i64 f1, .string f2, .slice (some ad3) 1 c3] 53))
  have hMA := hS.move (below_alloc (Below.refl _ _) (.cells #[.int .i64 12, .int .i64 f1, .string f2, .slice (some ad3) 1 c3] 53))
  have hgne : w.heap.size ≠ w0.heap.size := by have := hS.lt; omega
  generalize (w.alloc (.cells #[.int .i64 12, .int .i64 f1, .string f2, .slice (some ad3) 1 c3] 53)) = wA at hG hSA hMA ⊢
  clear ce cw k0 k1 k2 k3
  have hac : acc.length + (t.txt 4).length + 1 ≤ 1000000 := by rw [List.length_cons] at hacc; omega
  refine (ws_calls w0 ge (some ad) xs.length cap acc ⟨#[45]⟩ wA hSA (by show acc.length + 1 ≤ _; omega)).mono ?_
  rintro e w3 ⟨rfl, hS3, hM3⟩
  have hG3 := hM3.blk hG hgne (by decide)
  replace hM3 := hMA.trans hM3
  clear hG hSA hMA
  have n0 : w3.cell? ⟨w0.heap.size + 1, 0, none⟩ = _ := hS3.cells.2
  have n3 : w3.cell? ⟨w.heap.size, 3, none⟩ = some (.slice (some ad3) 1 c3) := (blk_cell hG3 3).trans rfl
  have kk3 : w3.cell? ad3 = some (.int .i64 i1) := by
    have h := (hS3.below.cell (World.block_lt_of_cell? _ _ zk)).trans zk
    rw [show ad3.add (Int.toNat 0) = ad3 from add_zero ad3] at h
    exact h
  go_wp2_with fail
  refine start_ (n := 6) (S := (fun w' => w'.cell? ⟨w0.heap.size + 1, 0, none⟩ = some (.func (.func 28) #[] #[.pointer (some ⟨ge, 0, none⟩), .pointer (some ⟨w0.heap.size, 0, none⟩), .pointer (some ⟨w0.heap.size + 1, 0, none⟩)]) ∧ w'.cell? ⟨w.heap.size, 3, none⟩ = some (.slice (some ad3) 1 c3) ∧ w'.cell? ad3 = some (.int .i64 i1))) (ds := [5]) #[false, false, false, false, false, false] (by kernel_rfl) rfl rfl ⟨n0, n3, kk3⟩ (fun hHeld => ?_)
  refine take_ (i := 0) (N := some 108) (v := ?_) (a' := ?_) #[true, false, false, false, false, false] rfl rfl (by kernel_rfl) (fun _ _ _ h => hq_text h) (Or.inl ⟨by rfl, ?_⟩) hHeld ?_ ?_
  rotate_left
  · rintro w' ⟨s0, s1, s2⟩
    go_simp
    with_reducible rfl
  rotate_left
  · simp only [Act.put, List.setIfInBounds_toArray, List.set_cons_zero, List.set_cons_succ, i64_w, i32_w]
    rfl
  refine pure_ (i := 1) (N := some 109) (v := ?_) (a' := ?_) #[true, true, false, false, false, false] rfl rfl (by kernel_rfl) (fun _ _ _ h => hq_text h) (Or.inl ⟨by rfl, ?_⟩) ?_ ?_
  rotate_left
  · intro w'
    go_simp
    with_reducible rfl
  rotate_left
  · simp only [Act.put, List.setIfInBounds_toArray, List.set_cons_zero, List.set_cons_succ, i64_w, i32_w]
    rfl
  refine take_ (i := 2) (N := some 110) (v := ?_) (a' := ?_) #[true, true, true, false, false, false] rfl rfl (by kernel_rfl) (fun _ _ _ h => hq_text h) (Or.inl ⟨by rfl, ?_⟩) hHeld ?_ ?_
  rotate_left
  · rintro w' ⟨s0, s1, s2⟩
    go_simp
    with_reducible rfl
  rotate_left
  · simp only [Act.put, List.setIfInBounds_toArray, List.set_cons_zero, List.set_cons_succ, i64_w, i32_w]
    rfl
  refine pure_ (i := 3) (N := some 111) (v := ?_) (a' := ?_) #[true, true, true, true, false, false] rfl rfl (by kernel_rfl) (fun _ _ _ h => hq_text h) (Or.inl ⟨by rfl, ?_⟩) ?_ ?_
  rotate_left
  · intro w'
    go_simp
    with_reducible rfl
  rotate_left
  · simp only [Act.put, List.setIfInBounds_toArray, List.set_cons_zero, List.set_cons_succ, i64_w, i32_w]
    rfl
  refine take_ (i := 4) (N := some 112) (v := ?_) (a' := ?_) #[true, true, true, true, true, false] rfl rfl (by kernel_rfl) (fun _ _ _ h => hq_text h) (Or.inl ⟨by rfl, ?_⟩) hHeld ?_ ?_
  rotate_left
  · rintro w' ⟨s0, s1, s2⟩
    go_simp
    with_reducible rfl
  rotate_left
  · simp only [Act.put, List.setIfInBounds_toArray, List.set_cons_zero, List.set_cons_succ, i64_w, i32_w]
    rfl
  refine last_ (i := 5) (N := some 113) #[true, true, true, true, true, true] rfl rfl (by kernel_rfl) (by decide) (fun K hK => ?_)
  refine call_ 28 #[.int .i64 i1, .int .i64 4, .pointer (some ⟨ge, 0, none⟩), .pointer (some ⟨w0.heap.size, 0, none⟩), .pointer (some ⟨w0.heap.size + 1, 0, none⟩)] rfl rfl ?_ ?_
  · unfold execOp
    simp [resolve, Deferred.ofValue, invoke, Act.eval, enters_ Tryd.func28 (by kernel_rfl) rfl, wrap3, wrap4]
  have hS4 := hS3.step (below_drew1 (Below.refl w3.heap.size w3))
  have hM4 := hM3.trans (hS3.move (below_drew1 (Below.refl _ _)))
  refine (IH 4 _ w3.drew (by omega) (by omega) (by rw [List.length_append]; show acc.length + 1 + _ ≤ _; omega) hS4).mono ?_
  rintro e w5 ⟨rfl, hS5, hM5⟩
  replace hM5 := hM4.trans hM5
  refine ⟨_, rfl, ?_⟩
  refine hK.out _ _ ?_
  clear hK K
  refine norm_ (a' := ?_) ?_ ?_
  rotate_left
  · show Act.put _ (some 113) _ = _
    simp only [Act.put, List.setIfInBounds_toArray, List.set_cons_zero, List.set_cons_succ, i64_w, i32_w]
    rfl
  refine done_ (by kernel_rfl) ?_
  refine ⟨.tuple #[], results_none' rfl _ _ _, rfl, ?_, hM5⟩
  rw [List.append_assoc] at hS5
  exact hS5
set_option maxHeartbeats 8000000 in
set_option maxRecDepth 100000 in
theorem text_weak (w0 : World) (ge : Nat) (A : Option Addr) (cap : Nat) (xs : List S53) (hC : Kd.C k53 w0 A xs.length xs) (hcap : xs.length ≤ cap) (i : Nat) (hi : i < xs.length) (hl : xs.length ≤ 300) (op i1 i2 : Int) (a b : T)
    (hs : (rd_T53 xs (i : Int)).f0 = op) (hx : (rd_T53 xs (i : Int)).f3 = [i1, i2]) (hst : strengthZ op = 1)
    (IHa : WrOk w0 ge A xs.length cap i1 a) (IHb : WrOk w0 ge A xs.length cap i2 b) (l : Int) (acc : List UInt8) (w : World) (hl1 : 1 ≤ l) (hl4 : l ≤ 4)
    (hacc : acc.length + (parB (decide (1 < l)) (a.txt 2 ++ 32 :: (nameM infixL op ++ 32 :: b.txt 2))).length ≤ 1000000) (hS : TSt w0 ge A xs.length cap acc w) :
    Calls Tryd.prog 28 #[.int .i64 i, .int .i64 l, .pointer (some ⟨ge, 0, none⟩), .pointer (some ⟨w0.heap.size, 0, none⟩), .pointer (some ⟨w0.heap.size + 1, 0, none⟩)] w
      (TextP w0 ge A xs.length cap acc (parB (decide (1 < l)) (a.txt 2 ++ 32 :: (nameM infixL op ++ 32 :: b.txt 2))) w) := by
  obtain ⟨ce, cw⟩ := hS.cells
  obtain ⟨ad, A3, c3, rfl, z0, z1, z2, z3, hl3, hz3⟩ := at_T53 hC (i : Int) (by omega) (by omega)
  rw [Int.toNat_natCast] at z0 z1 z2 z3
  have k0 := (hS.below.cell (World.block_lt_of_cell? _ _ z0)).trans z0
  have k1 := (hS.below.cell (World.block_lt_of_cell? _ _ z1)).trans z1
  have k2 := (hS.below.cell (World.block_lt_of_cell? _ _ z2)).trans z2
  have k3 := (hS.below.cell (World.block_lt_of_cell? _ _ z3)).trans z3
  clear z0 z1 z2 z3
  generalize rd_T53 xs (i : Int) = x at *
  obtain ⟨f0, f1, f2, f3⟩ := x
  simp only at hx hs k0 k1 k2 k3 hl3 hz3
  subst hx
  subst hs
  obtain ⟨ad3, rfl, zk1⟩ := Kd.at_int hz3 0 (by omega) (by simp)
  obtain ⟨ad4, e4, zk2⟩ := Kd.at_int hz3 1 (by omega) (by simp)
  obtain rfl : ad3 = ad4 := by injection e4
  rw [show ad3.add (Int.toNat 0) = ad3 from add_zero ad3] at zk1
  replace zk1 : w0.cell? ad3 = some (.int .i64 i1) := zk1
  replace zk2 : w0.cell? (ad3.add 1) = some (.int .i64 i2) := zk2
  rw [add_one] at zk2
  simp only [List.length_cons, List.length_nil, Nat.zero_add, Nat.reduceAdd] at hz3 hl3 k3
  have hnmlen := infix_len f0
  obtain ⟨nm, hnmE⟩ : ∃ nm, nameM infixL f0 = nm := ⟨_, rfl⟩
  rw [hnmE] at hacc hnmlen ⊢
  have HNM := Lib.hid hnmE
  clear hnmE e4
  go_enter_defers Tryd.func28, Tryd.ntmps28
  go_wp2_with fail
  refine (strength_calls _ _).mono ?_
  rintro e w2 ⟨rfl, rfl⟩
  rw [hst]
  have hG : (w.alloc (.cells #[.int .i64 f0, .int .i64 f1, .string f2, .slice (some ad3) 2 c3] 53)).heap[w.heap.size]? = some (.cells #[.int .i64 f0, .int .i64 f1, .string f2, .slice (some ad3) 2 c3] 53 (0, 0)) := blk_new w _
  have hSA := hS.step (below_alloc (Below.refl _ _) (.cells #[.int .i64 f0, .int .i64 f1, .string f2, .slice (some ad3) 2 c3] 53))
  have hMA := hS.move (below_alloc (Below.refl _ _) (.cells #[.int .i64 f0, .int .i64 f1, .string f2, .slice (some ad3) 2 c3] 53))
  have hgne : w.heap.size ≠ w0.heap.size := by have := hS.lt; omega
  by_cases hlt : 1 < l
  case' pos =>
    have hlb : decide ((1 : Int) < l) = true := decide_eq_true hlt
    have hac2 : acc.length + (a.txt 2).length + (b.txt 2).length + nm.length + 4 ≤ 1000000 := by
      rw [decide_eq_true hlt] at hacc
      simp only [parB, if_true, List.length_cons, List.length_append, List.length_nil] at hacc
      omega
    clear hacc
    have HLT := Lib.hid hlt
    clear hlt hst
    go_wp2_with fail
    generalize (w.alloc (.cells #[.int .i64 f0, .int .i64 f1, .string f2, .slice (some ad3) 2 c3] 53)) = wA at hG hSA hMA ⊢
    clear ce cw k0 k1 k2 k3
    refine (ws_calls w0 ge (some ad) xs.length cap acc ⟨#[40]⟩ wA hSA (by show acc.length + 1 ≤ _; omega)).mono ?_
    rintro e w3 ⟨rfl, hS3, hM3⟩
    replace hS3 : TSt w0 ge (some ad) xs.length cap (acc ++ [40]) w3 := hS3
    obtain ⟨acc3, hac3⟩ : ∃ z, z = acc ++ [40] := ⟨_, rfl⟩
    rw [← hac3] at hS3
    have hacl : acc3.length = acc.length + 1 := by rw [hac3]; simp
    have hac4 : acc3.length + (a.txt 2).length + (b.txt 2).length + nm.length + 2 ≤ 1000000 := by omega
    have HA3 := Lib.hid hac3
    clear hac3 hacl hac2
    have hG3 := hM3.blk hG hgne (by decide)
    replace hM3 := hMA.trans hM3
    clear hG hSA hMA
  case' neg =>
    have hlb : decide ((1 : Int) < l) = false := decide_eq_false hlt
    have hac2 : acc.length + (a.txt 2).length + (b.txt 2).length + nm.length + 2 ≤ 1000000 := by
      rw [decide_eq_false hlt] at hacc
      simp only [parB, Bool.false_eq_true, if_false, List.length_cons, List.length_append, List.length_nil] at hacc
      omega
    clear hacc
    have HLT := Lib.hid hlt
    clear hlt hst
    have hbl3 := below_alloc (Below.refl w.heap.size w) (.cells #[.int .i64 f0, .int .i64 f1, .string f2, .slice (some ad3) 2 c3] 53)
    obtain ⟨acc3, hac3⟩ : ∃ z, z = acc := ⟨_, rfl⟩
    have hac4 : acc3.length + (a.txt 2).length + (b.txt 2).length + nm.length + 2 ≤ 1000000 := by rw [hac3]; omega
    have hS3 := hSA
    rw [← hac3] at hS3
    have HA3 := Lib.hid hac3
    clear hac3 hac2
    have hM3 := hMA
    have hG3 := hG
    clear hG hSA hMA hbl3
    go_wp2_with fail
    generalize (w.alloc (.cells #[.int .i64 f0, .int .i64 f1, .string f2, .slice (some ad3) 2 c3] 53)) = w3 at hG3 hS3 hM3 ⊢
    clear ce cw k0 k1 k2 k3
  all_goals (
    have n0 : w3.cell? ⟨w0.heap.size + 1, 0, none⟩ = _ := hS3.cells.2
    have n3 : w3.cell? ⟨w.heap.size, 3, none⟩ = some (.slice (some ad3) 2 c3) := (blk_cell hG3 3).trans rfl
    have kk : w3.cell? ad3 = some (.int .i64 i1) := (hS3.below.cell (World.block_lt_of_cell? _ _ zk1)).trans zk1
    go_wp2_with fail
    refine start_ (n := 6) (S := (fun w' => w'.cell? ⟨w0.heap.size + 1, 0, none⟩ = some (.func (.func 28) #[] #[.pointer (some ⟨ge, 0, none⟩), .pointer (some ⟨w0.heap.size, 0, none⟩), .pointer (some ⟨w0.heap.size + 1, 0, none⟩)]) ∧ w'.cell? ⟨w.heap.size, 3, none⟩ = some (.slice (some ad3) 2 c3) ∧ w'.cell? ad3 = some (.int .i64 i1))) (ds := [5]) #[false, false, false, false, false, false] (by kernel_rfl) rfl rfl ⟨n0, n3, kk⟩ (fun hHeld => ?_)
    refine take_ (i := 0) (N := some 61) (v := ?_) (a' := ?_) #[true, false, false, false, false, false] rfl rfl (by kernel_rfl) (fun _ _ _ h => hq_text h) (Or.inl ⟨by rfl, ?_⟩) hHeld ?_ ?_
    rotate_left
    · rintro w' ⟨s0, s1, s2⟩
      go_simp
      with_reducible rfl
    rotate_left
    · simp only [Act.put, List.setIfInBounds_toArray, List.set_cons_zero, List.set_cons_succ, i64_w, i32_w]
      rfl
    refine pure_ (i := 1) (N := some 62) (v := ?_) (a' := ?_) #[true, true, false, false, false, false] rfl rfl (by kernel_rfl) (fun _ _ _ h => hq_text h) (Or.inl ⟨by rfl, ?_⟩) ?_ ?_
    rotate_left
    · intro w'
      go_simp
      with_reducible rfl
    rotate_left
    · simp only [Act.put, List.setIfInBounds_toArray, List.set_cons_zero, List.set_cons_succ, i64_w, i32_w]
      rfl
    refine take_ (i := 2) (N := some 63) (v := ?_) (a' := ?_) #[true, true, true, false, false, false] rfl rfl (by kernel_rfl) (fun _ _ _ h => hq_text h) (Or.inl ⟨by rfl, ?_⟩) hHeld ?_ ?_
    rotate_left
    · rintro w' ⟨s0, s1, s2⟩
      go_simp
      with_reducible rfl
    rotate_left
    · simp only [Act.put, List.setIfInBounds_toArray, List.set_cons_zero, List.set_cons_succ, i64_w, i32_w]
      rfl
    refine pure_ (i := 3) (N := some 64) (v := ?_) (a' := ?_) #[true, true, true, true, false, false] rfl rfl (by kernel_rfl) (fun _ _ _ h => hq_text h) (Or.inl ⟨by rfl, ?_⟩) ?_ ?_
    rotate_left
    · intro w'
      go_simp
      with_reducible rfl
    rotate_left
    · simp only [Act.put, List.setIfInBounds_toArray, List.set_cons_zero, List.set_cons_succ, i64_w, i32_w]
      rfl
    refine take_ (i := 4) (N := some 65) (v := ?_) (a' := ?_) #[true, true, true, true, true, false] rfl rfl (by kernel_rfl) (fun _ _ _ h => hq_text h) (Or.inl ⟨by rfl, ?_⟩) hHeld ?_ ?_
    rotate_left
    · rintro w' ⟨s0, s1, s2⟩
      go_simp
      with_reducible rfl
    rotate_left
    · simp only [Act.put, List.setIfInBounds_toArray, List.set_cons_zero, List.set_cons_succ, i64_w, i32_w]
      rfl
    refine last_ (i := 5) (N := some 66) #[true, true, true, true, true, true] rfl rfl (by kernel_rfl) (by decide) (fun K hK => ?_)
    refine call_ 28 #[.int .i64 i1, .int .i64 2, .pointer (some ⟨ge, 0, none⟩), .pointer (some ⟨w0.heap.size, 0, none⟩), .pointer (some ⟨w0.heap.size + 1, 0, none⟩)] rfl rfl ?_ ?_
    · unfold execOp
      simp [resolve, Deferred.ofValue, invoke, Act.eval, enters_ Tryd.func28 (by kernel_rfl) rfl, wrap3, wrap4]
    have HSd := hS3.step (below_drew1 (Below.refl w3.heap.size w3))
    have HMd := hM3.trans (hS3.move (below_drew1 (Below.refl _ _)))
    have HGd := blk_drew hG3
    clear n0 n3 kk hS3 hM3 hG3
    refine (IHa 2 _ w3.drew (by omega) (by omega) (by (try simp only [List.length_append, List.length_cons, List.length_nil]); omega) HSd).mono ?_
    rintro e w4 ⟨rfl, hS4, hM4⟩
    have hG4 := hM4.blk HGd hgne (by decide)
    replace hM4 := HMd.trans hM4
    clear HSd HMd HGd
    refine ⟨_, rfl, ?_⟩
    refine hK.out _ _ ?_
    clear hK K
    refine norm_ (a' := ?_) ?_ ?_
    rotate_left
    · show Act.put _ (some 66) _ = _
      simp only [Act.put, List.setIfInBounds_toArray, List.set_cons_zero, List.set_cons_succ, i64_w, i32_w]
      rfl
    refine done_ (by kernel_rfl) ?_
    have n0 : w4.cell? ⟨w.heap.size, 0, none⟩ = some (.int .i64 f0) := (blk_cell hG4 0).trans rfl
    go_wp2_with fail
    refine start_ (n := 7) (S := (fun w' => w'.cell? ⟨w.heap.size, 0, none⟩ = some (.int .i64 f0))) (ds := [6]) #[false, false, false, false, false, false, false] (by kernel_rfl) rfl rfl n0 (fun hHeld => ?_)
    refine pure_ (i := 1) (N := some 68) (v := ?_) (a' := ?_) #[false, true, false, false, false, false, false] rfl rfl (by kernel_rfl) (fun _ _ _ h => hq_text h) (Or.inl ⟨by rfl, ?_⟩) ?_ ?_
    rotate_left
    · intro w'
      go_simp
      with_reducible rfl
    rotate_left
    · simp only [Act.put, List.setIfInBounds_toArray, List.set_cons_zero, List.set_cons_succ, i64_w, i32_w]
      rfl
    refine take_ (i := 2) (N := some 69) (v := ?_) (a' := ?_) #[false, true, true, false, false, false, false] rfl rfl (by kernel_rfl) (fun _ _ _ h => hq_text h) (Or.inl ⟨by rfl, ?_⟩) hHeld ?_ ?_
    rotate_left
    · rintro w' s0
      go_simp
      with_reducible rfl
    rotate_left
    · simp only [Act.put, List.setIfInBounds_toArray, List.set_cons_zero, List.set_cons_succ, i64_w, i32_w]
      rfl
    refine one_ (i := 0) (N := some 67) #[true, true, true, false, false, false, false] rfl rfl (by kernel_rfl) (by decide) (fun K hK => ?_)
    refine goes_ Tryd.func32 (by kernel_rfl) rfl #[] (by rfl) rfl rfl (by simp) ?_
    refine (infix_calls w4.drew).mono ?_
    rintro e wi ⟨rfl, hmi, hbi⟩
    have hBi : Below w4.heap.size w4 wi := below_step (below_drew1 (Below.refl _ _)) hbi
    have hSi := hS4.step hBi
    have hMi := hM4.trans (hS4.move hBi)
    have hGi := blk_below hG4 hBi
    clear n0 hS4 hM4 hG4 hBi hbi
    refine ⟨_, rfl, ?_⟩
    refine hK.out _ _ ((blk_cell hGi 0).trans rfl) (fun hHeld => ?_)
    clear hK K
    refine norm_ (a' := ?_) ?_ ?_
    rotate_left
    · show Act.put _ (some 67) _ = _
      simp only [Act.put, List.setIfInBounds_toArray, List.set_cons_zero, List.set_cons_succ, i64_w, i32_w]
      rfl
    refine one_ (i := 3) (N := some 70) #[true, true, true, true, false, false, false] rfl rfl (by kernel_rfl) (by decide) (fun K hK => ?_)
    refine goes_ Tryd.func31 (by kernel_rfl) rfl #[.map (some w4.heap.size), .int .i64 f0] (by rfl) rfl rfl (by simp [Act.eval]) ?_
    have hsc := symbol_calls w4.heap.size infixL f0 wi infix_nodup hmi
    rw [HNM.out] at hsc
    refine hsc.mono ?_
    clear hsc hmi
    rintro e wj ⟨rfl, hbj⟩
    have hSj := hSi.step hbj
    have hMj := hMi.trans (hSi.move hbj)
    have hGj := blk_below hGi hbj
    clear hSi hMi hGi hbj
    refine ⟨_, rfl, ?_⟩
    refine hK.out _ _ ((blk_cell hGj 0).trans rfl) (fun hHeld => ?_)
    clear hK K
    refine norm_ (a' := ?_) ?_ ?_
    rotate_left
    · show Act.put _ (some 70) _ = _
      simp only [Act.put, List.setIfInBounds_toArray, List.set_cons_zero, List.set_cons_succ, i64_w, i32_w]
      rfl
    have hln1 : ¬ (9223372036854775807 < 1 + nm.length) := by omega
    have hln2 : ¬ (9223372036854775807 < 1 + nm.length + 1) := by omega
    refine pure_ (i := 4) (N := some 71) (v := ?_) (a' := ?_) #[true, true, true, true, true, false, false] rfl rfl (by kernel_rfl) (fun _ _ _ h => hq_text h) (Or.inl ⟨by rfl, ?_⟩) ?_ ?_
    rotate_left
    · intro w'
      go_simp
      with_reducible rfl
    rotate_left
    · simp only [Act.put, List.setIfInBounds_toArray, List.set_cons_zero, List.set_cons_succ, i64_w, i32_w]
      rfl
    refine pure_ (i := 5) (N := some 72) (v := ?_) (a' := ?_) #[true, true, true, true, true, true, false] rfl rfl (by kernel_rfl) (fun _ _ _ h => hq_text h) (Or.inl ⟨by rfl, ?_⟩) ?_ ?_
    rotate_left
    · intro w'
      go_simp
      with_reducible rfl
    rotate_left
    · simp only [Act.put, List.setIfInBounds_toArray, List.set_cons_zero, List.set_cons_succ, i64_w, i32_w]
      rfl
    refine last_ (i := 6) (N := some 73) #[true, true, true, true, true, true, true] rfl rfl (by kernel_rfl) (by decide) (fun K hK => ?_)
    refine goes_ Tryd.func30 (by kernel_rfl) rfl #[.pointer (some ⟨w0.heap.size, 0, none⟩), .string ((⟨#[32]⟩ : ByteArray) ++ (⟨nm.toArray⟩ : ByteArray) ++ (⟨#[32]⟩ : ByteArray))] (by rfl) rfl rfl (by simp [Act.eval]) ?_
    have hdat : ((⟨#[32]⟩ : ByteArray) ++ (⟨nm.toArray⟩ : ByteArray) ++ (⟨#[32]⟩ : ByteArray)).data.toList = 32 :: (nm ++ [32]) := by simp [ByteArray.data_append]
    have hln : ((acc3 ++ a.txt 2)).length + ((⟨#[32]⟩ : ByteArray) ++ (⟨nm.toArray⟩ : ByteArray) ++ (⟨#[32]⟩ : ByteArray)).data.toList.length ≤ 100000000 := by
      rw [hdat]
      simp only [List.length_append, List.length_cons, List.length_nil]
      omega
    refine (ws_calls w0 ge (some ad) xs.length cap ((acc3 ++ a.txt 2)) ((⟨#[32]⟩ : ByteArray) ++ (⟨nm.toArray⟩ : ByteArray) ++ (⟨#[32]⟩ : ByteArray)) wj hSj hln).mono ?_
    rintro e w5 ⟨rfl, hS5, hM5⟩
    rw [hdat] at hS5
    have hG5 := hM5.blk hGj hgne (by decide)
    replace hM5 := hMj.trans hM5
    clear hSj hMj hGj hdat hln hln1 hln2 hHeld
    refine ⟨_, rfl, ?_⟩
    refine hK.out _ _ ?_
    clear hK K
    refine norm_ (a' := ?_) ?_ ?_
    rotate_left
    · show Act.put _ (some 73) _ = _
      simp only [Act.put, List.setIfInBounds_toArray, List.set_cons_zero, List.set_cons_succ, i64_w, i32_w]
      rfl
    refine done_ (by kernel_rfl) ?_
    have n0 : w5.cell? ⟨w0.heap.size + 1, 0, none⟩ = _ := hS5.cells.2
    have n3 : w5.cell? ⟨w.heap.size, 3, none⟩ = some (.slice (some ad3) 2 c3) := (blk_cell hG5 3).trans rfl
    have kk : w5.cell? ⟨ad3.block,ad3.off+1,none⟩ = some (.int .i64 i2) := (hS5.below.cell (World.block_lt_of_cell? _ _ zk2)).trans zk2
    go_wp2_with fail
    refine start_ (n := 6) (S := (fun w' => w'.cell? ⟨w0.heap.size + 1, 0, none⟩ = some (.func (.func 28) #[] #[.pointer (some ⟨ge, 0, none⟩), .pointer (some ⟨w0.heap.size, 0, none⟩), .pointer (some ⟨w0.heap.size + 1, 0, none⟩)]) ∧ w'.cell? ⟨w.heap.size, 3, none⟩ = some (.slice (some ad3) 2 c3) ∧ w'.cell? ⟨ad3.block,ad3.off+1,none⟩ = some (.int .i64 i2))) (ds := [5]) #[false, false, false, false, false, false] (by kernel_rfl) rfl rfl ⟨n0, n3, kk⟩ (fun hHeld => ?_)
    refine take_ (i := 0) (N := some 74) (v := ?_) (a' := ?_) #[true, false, false, false, false, false] rfl rfl (by kernel_rfl) (fun _ _ _ h => hq_text h) (Or.inl ⟨by rfl, ?_⟩) hHeld ?_ ?_
    rotate_left
    · rintro w' ⟨s0, s1, s2⟩
      go_simp
      with_reducible rfl
    rotate_left
    · simp only [Act.put, List.setIfInBounds_toArray, List.set_cons_zero, List.set_cons_succ, i64_w, i32_w]
      rfl
    refine pure_ (i := 1) (N := some 75) (v := ?_) (a' := ?_) #[true, true, false, false, false, false] rfl rfl (by kernel_rfl) (fun _ _ _ h => hq_text h) (Or.inl ⟨by rfl, ?_⟩) ?_ ?_
    rotate_left
    · intro w'
      go_simp
      with_reducible rfl
    rotate_left
    · simp only [Act.put, List.setIfInBounds_toArray, List.set_cons_zero, List.set_cons_succ, i64_w, i32_w]
      rfl
    refine take_ (i := 2) (N := some 76) (v := ?_) (a' := ?_) #[true, true, true, false, false, false] rfl rfl (by kernel_rfl) (fun _ _ _ h => hq_text h) (Or.inl ⟨by rfl, ?_⟩) hHeld ?_ ?_
    rotate_left
    · rintro w' ⟨s0, s1, s2⟩
      go_simp
      with_reducible rfl
    rotate_left
    · simp only [Act.put, List.setIfInBounds_toArray, List.set_cons_zero, List.set_cons_succ, i64_w, i32_w]
      rfl
    refine pure_ (i := 3) (N := some 77) (v := ?_) (a' := ?_) #[true, true, true, true, false, false] rfl rfl (by kernel_rfl) (fun _ _ _ h => hq_text h) (Or.inl ⟨by rfl, ?_⟩) ?_ ?_
    rotate_left
    · intro w'
      go_simp
      with_reducible rfl
    rotate_left
    · simp only [Act.put, List.setIfInBounds_toArray, List.set_cons_zero, List.set_cons_succ, i64_w, i32_w]
      rfl
    refine take_ (i := 4) (N := some 78) (v := ?_) (a' := ?_) #[true, true, true, true, true, false] rfl rfl (by kernel_rfl) (fun _ _ _ h => hq_text h) (Or.inl ⟨by rfl, ?_⟩) hHeld ?_ ?_
    rotate_left
    · rintro w' ⟨s0, s1, s2⟩
      go_simp
      with_reducible rfl
    rotate_left
    · simp only [Act.put, List.setIfInBounds_toArray, List.set_cons_zero, List.set_cons_succ, i64_w, i32_w]
      rfl
    refine last_ (i := 5) (N := some 79) #[true, true, true, true, true, true] rfl rfl (by kernel_rfl) (by decide) (fun K hK => ?_)
    refine call_ 28 #[.int .i64 i2, .int .i64 2, .pointer (some ⟨ge, 0, none⟩), .pointer (some ⟨w0.heap.size, 0, none⟩), .pointer (some ⟨w0.heap.size + 1, 0, none⟩)] rfl rfl ?_ ?_
    · unfold execOp
      simp [resolve, Deferred.ofValue, invoke, Act.eval, enters_ Tryd.func28 (by kernel_rfl) rfl, wrap3, wrap4]
    have HSd := hS5.step (below_drew1 (Below.refl w5.heap.size w5))
    have HMd := hM5.trans (hS5.move (below_drew1 (Below.refl _ _)))
    have HGd := blk_drew hG5
    clear n0 n3 kk hS5 hM5 hG5
    refine (IHb 2 _ w5.drew (by omega) (by omega) (by (try simp only [List.length_append, List.length_cons, List.length_nil]); omega) HSd).mono ?_
    rintro e w6 ⟨rfl, hS6, hM6⟩
    have hG6 := hM6.blk HGd hgne (by decide)
    replace hM6 := HMd.trans hM6
    clear HSd HMd HGd
    refine ⟨_, rfl, ?_⟩
    refine hK.out _ _ ?_
    clear hK K
    refine norm_ (a' := ?_) ?_ ?_
    rotate_left
    · show Act.put _ (some 79) _ = _
      simp only [Act.put, List.setIfInBounds_toArray, List.set_cons_zero, List.set_cons_succ, i64_w, i32_w]
      rfl
    refine done_ (by kernel_rfl) ?_
    have hlt := HLT.out)
  · skip
    refine ⟨.tuple #[], results_none' rfl _ _ _, rfl, ?_, hM6⟩
    rw [decide_eq_false (by omega)]
    rw [HA3.out] at hS6
    simpa [parB, List.append_assoc] using hS6
  · skip
    refine leaves_cons (f := 30) (args := #[.pointer (some ⟨w0.heap.size, 0, none⟩), .string ⟨#[41]⟩]) (by simp) (by simp [go_sem]) ?_
    refine (ws_d w0 ge (some ad) xs.length cap _ ⟨#[41]⟩ w6 hS6 .returning (by (try simp only [List.length_append, List.length_cons, List.length_nil]); omega)).mono ?_
    rintro e u' w7 ⟨rfl, rfl, hS7, hM7⟩
    refine ⟨.tuple #[], results_none' rfl _ _ _, rfl, ?_, hM6.trans hM7⟩
    rw [decide_eq_true (by omega)]
    rw [HA3.out] at hS7
    simpa [parB, List.append_assoc] using hS7
set_option maxHeartbeats 8000000 in
set_option maxRecDepth 100000 in
theorem text_sum (w0 : World) (ge : Nat) (A : Option Addr) (cap : Nat) (xs : List S53) (hC : Kd.C k53 w0 A xs.length xs) (hcap : xs.length ≤ cap) (i : Nat) (hi : i < xs.length) (hl : xs.length ≤ 300) (op i1 i2 : Int) (a b : T)
    (hs : (rd_T53 xs (i : Int)).f0 = op) (hx : (rd_T53 xs (i : Int)).f3 = [i1, i2]) (hst : strengthZ op = 2)
    (IHa : WrOk w0 ge A xs.length cap i1 a) (IHb : WrOk w0 ge A xs.length cap i2 b) (l : Int) (acc : List UInt8) (w : World) (hl1 : 1 ≤ l) (hl4 : l ≤ 4)
    (hacc : acc.length + (parB (decide (2 < l)) (a.txt 2 ++ 32 :: (nameM infixL op ++ 32 :: b.txt 3))).length ≤ 1000000) (hS : TSt w0 ge A xs.length cap acc w) :
    Calls Tryd.prog 28 #[.int .i64 i, .int .i64 l, .pointer (some ⟨ge, 0, none⟩), .pointer (some ⟨w0.heap.size, 0, none⟩), .pointer (some ⟨w0.heap.size + 1, 0, none⟩)] w
      (TextP w0 ge A xs.length cap acc (parB (decide (2 < l)) (a.txt 2 ++ 32 :: (nameM infixL op ++ 32 :: b.txt 3))) w) := by
  obtain ⟨ce, cw⟩ := hS.cells
  obtain ⟨ad, A3, c3, rfl, z0, z1, z2, z3, hl3, hz3⟩ := at_T53 hC (i : Int) (by omega) (by omega)
  rw [Int.toNat_natCast] at z0 z1 z2 z3
  have k0 := (hS.below.cell (World.block_lt_of_cell? _ _ z0)).trans z0
  have k1 := (hS.below.cell (World.block_lt_of_cell? _ _ z1)).trans z1
  have k2 := (hS.below.cell (World.block_lt_of_cell? _ _ z2)).trans z2
  have k3 := (hS.below.cell (World.block_lt_of_cell? _ _ z3)).trans z3
  clear z0 z1 z2 z3
  generalize rd_T53 xs (i : Int) = x at *
  obtain ⟨f0, f1, f2, f3⟩ := x
  simp only at hx hs k0 k1 k2 k3 hl3 hz3
  subst hx
  subst hs
  obtain ⟨ad3, rfl, zk1⟩ := Kd.at_int hz3 0 (by omega) (by simp)
  obtain ⟨ad4, e4, zk2⟩ := Kd.at_int hz3 1 (by omega) (by simp)
  obtain rfl : ad3 = ad4 := by injection e4
  rw [show ad3.add (Int.toNat 0) = ad3 from add_zero ad3] at zk1
  replace zk1 : w0.cell? ad3 = some (.int .i64 i1) := zk1
  replace zk2 : w0.cell? (ad3.add 1) = some (.int .i64 i2) := zk2
  rw [add_one] at zk2
  simp only [List.length_cons, List.length_nil, Nat.zero_add, Nat.reduceAdd] at hz3 hl3 k3
  have hnmlen := infix_len f0
  obtain ⟨nm, hnmE⟩ : ∃ nm, nameM infixL f0 = nm := ⟨_, rfl⟩
  rw [hnmE] at hacc hnmlen ⊢
  have HNM := Lib.hid hnmE
  clear hnmE e4
  go_enter_defers Tryd.func28, Tryd.ntmps28
  go_wp2_with fail
  refine (strength_calls _ _).mono ?_
  rintro e w2 ⟨rfl, rfl⟩
  rw [hst]
  have hG : (w.alloc (.cells #[.int .i64 f0, .int .i64 f1, .string f2, .slice (some ad3) 2 c3] 53)).heap[w.heap.size]? = some (.cells #[.int .i64 f0, .int .i64 f1, .string f2, .slice (some ad3) 2 c3] 53 (0, 0)) := blk_new w _
  have hSA := hS.step (below_alloc (Below.refl _ _) (.cells #[.int .i64 f0, .int .i64 f1, .string f2, .slice (some ad3) 2 c3] 53))
  have hMA := hS.move (below_alloc (Below.refl _ _) (.cells #[.int .i64 f0, .int .i64 f1, .string f2, .slice (some ad3) 2 c3] 53))
  have hgne : w.heap.size ≠ w0.heap.size := by have := hS.lt; omega
  by_cases hlt : 2 < l
  case' pos =>
    have hlb : decide ((2 : Int) < l) = true := decide_eq_true hlt
    have hac2 : acc.length + (a.txt 2).length + (b.txt 3).length + nm.length + 4 ≤ 1000000 := by
      rw [decide_eq_true hlt] at hacc
      simp only [parB, if_true, List.length_cons, List.length_append, List.length_nil] at hacc
      omega
    clear hacc
    have HLT := Lib.hid hlt
    clear hlt hst
    go_wp2_with fail
    generalize (w.alloc (.cells #[.int .i64 f0, .int .i64 f1, .string f2, .slice (some ad3) 2 c3] 53)) = wA at hG hSA hMA ⊢
    clear ce cw k0 k1 k2 k3
    refine (ws_calls w0 ge (some ad) xs.length cap acc ⟨#[40]⟩ wA hSA (by show acc.length + 1 ≤ _; omega)).mono ?_
    rintro e w3 ⟨rfl, hS3, hM3⟩
    replace hS3 : TSt w0 ge (some ad) xs.length cap (acc ++ [40]) w3 := hS3
    obtain ⟨acc3, hac3⟩ : ∃ z, z = acc ++ [40] := ⟨_, rfl⟩
    rw [← hac3] at hS3
    have hacl : acc3.length = acc.length + 1 := by rw [hac3]; simp
    have hac4 : acc3.length + (a.txt 2).length + (b.txt 3).length + nm.length + 2 ≤ 1000000 := by omega
    have HA3 := Lib.hid hac3
    clear hac3 hacl hac2
    have hG3 := hM3.blk hG hgne (by decide)
    replace hM3 := hMA.trans hM3
    clear hG hSA hMA
  case' neg =>
    have hlb : decide ((2 : Int) < l) = false := decide_eq_false hlt
    have hac2 : acc.length + (a.txt 2).length + (b.txt 3).length + nm.length + 2 ≤ 1000000 := by
      rw [decide_eq_false hlt] at hacc
      simp only [parB, Bool.false_eq_true, if_false, List.length_cons, List.length_append, List.length_nil] at hacc
      omega
    clear hacc
    have HLT := Lib.hid hlt
    clear hlt hst
    have hbl3 := below_alloc (Below.refl w.heap.size w) (.cells #[.int .i64 f0, .int .i64 f1, .string f2, .slice (some ad3) 2 c3] 53)
    obtain ⟨acc3, hac3⟩ : ∃ z, z = acc := ⟨_, rfl⟩
    have hac4 : acc3.length + (a.txt 2).length + (b.txt 3).length + nm.length + 2 ≤ 1000000 := by rw [hac3]; omega
    have hS3 := hSA
    rw [← hac3] at hS3
    have HA3 := Lib.hid hac3
    clear hac3 hac2
    have hM3 := hMA
    have hG3 := hG
    clear hG hSA hMA hbl3
    go_wp2_with fail
    generalize (w.alloc (.cells #[.int .i64 f0, .int .i64 f1, .string f2, .slice (some ad3) 2 c3] 53)) = w3 at hG3 hS3 hM3 ⊢
    clear ce cw k0 k1 k2 k3
  all_goals (
    have n0 : w3.cell? ⟨w0.heap.size + 1, 0, none⟩ = _ := hS3.cells.2
    have n3 : w3.cell? ⟨w.heap.size, 3, none⟩ = some (.slice (some ad3) 2 c3) := (blk_cell hG3 3).trans rfl
    have kk : w3.cell? ad3 = some (.int .i64 i1) := (hS3.below.cell (World.block_lt_of_cell? _ _ zk1)).trans zk1
    go_wp2_with fail
    refine start_ (n := 7) (S := (fun w' => w'.cell? ⟨w0.heap.size + 1, 0, none⟩ = some (.func (.func 28) #[] #[.pointer (some ⟨ge, 0, none⟩), .pointer (some ⟨w0.heap.size, 0, none⟩), .pointer (some ⟨w0.heap.size + 1, 0, none⟩)]) ∧ w'.cell? ⟨w.heap.size, 3, none⟩ = some (.slice (some ad3) 2 c3) ∧ w'.cell? ad3 = some (.int .i64 i1))) (ds := [6]) #[false, false, false, false, false, false, false] (by kernel_rfl) rfl rfl ⟨n0, n3, kk⟩ (fun hHeld => ?_)
    refine take_ (i := 0) (N := some 83) (v := ?_) (a' := ?_) #[true, false, false, false, false, false, false] rfl rfl (by kernel_rfl) (fun _ _ _ h => hq_text h) (Or.inl ⟨by rfl, ?_⟩) hHeld ?_ ?_
    rotate_left
    · rintro w' ⟨s0, s1, s2⟩
      go_simp
      with_reducible rfl
    rotate_left
    · simp only [Act.put, List.setIfInBounds_toArray, List.set_cons_zero, List.set_cons_succ, i64_w, i32_w]
      rfl
    refine pure_ (i := 1) (N := some 84) (v := ?_) (a' := ?_) #[true, true, false, false, false, false, false] rfl rfl (by kernel_rfl) (fun _ _ _ h => hq_text h) (Or.inl ⟨by rfl, ?_⟩) ?_ ?_
    rotate_left
    · intro w'
      go_simp
      with_reducible rfl
    rotate_left
    · simp only [Act.put, List.setIfInBounds_toArray, List.set_cons_zero, List.set_cons_succ, i64_w, i32_w]
      rfl
    refine take_ (i := 2) (N := some 85) (v := ?_) (a' := ?_) #[true, true, true, false, false, false, false] rfl rfl (by kernel_rfl) (fun _ _ _ h => hq_text h) (Or.inl ⟨by rfl, ?_⟩) hHeld ?_ ?_
    rotate_left
    · rintro w' ⟨s0, s1, s2⟩
      go_simp
      with_reducible rfl
    rotate_left
    · simp only [Act.put, List.setIfInBounds_toArray, List.set_cons_zero, List.set_cons_succ, i64_w, i32_w]
      rfl
    refine pure_ (i := 3) (N := some 86) (v := ?_) (a' := ?_) #[true, true, true, true, false, false, false] rfl rfl (by kernel_rfl) (fun _ _ _ h => hq_text h) (Or.inl ⟨by rfl, ?_⟩) ?_ ?_
    rotate_left
    · intro w'
      go_simp
      with_reducible rfl
    rotate_left
    · simp only [Act.put, List.setIfInBounds_toArray, List.set_cons_zero, List.set_cons_succ, i64_w, i32_w]
      rfl
    refine take_ (i := 4) (N := some 87) (v := ?_) (a' := ?_) #[true, true, true, true, true, false, false] rfl rfl (by kernel_rfl) (fun _ _ _ h => hq_text h) (Or.inl ⟨by rfl, ?_⟩) hHeld ?_ ?_
    rotate_left
    · rintro w' ⟨s0, s1, s2⟩
      go_simp
      with_reducible rfl
    rotate_left
    · simp only [Act.put, List.setIfInBounds_toArray, List.set_cons_zero, List.set_cons_succ, i64_w, i32_w]
      rfl
    refine pure_ (i := 5) (N := some 88) (v := ?_) (a' := ?_) #[true, true, true, true, true, true, false] rfl rfl (by kernel_rfl) (fun _ _ _ h => hq_text h) (Or.inl ⟨by rfl, ?_⟩) ?_ ?_
    rotate_left
    · intro w'
      go_simp
      with_reducible rfl
    rotate_left
    · simp only [Act.put, List.setIfInBounds_toArray, List.set_cons_zero, List.set_cons_succ, i64_w, i32_w]
      rfl
    refine last_ (i := 6) (N := some 89) #[true, true, true, true, true, true, true] rfl rfl (by kernel_rfl) (by decide) (fun K hK => ?_)
    refine call_ 28 #[.int .i64 i1, .int .i64 2, .pointer (some ⟨ge, 0, none⟩), .pointer (some ⟨w0.heap.size, 0, none⟩), .pointer (some ⟨w0.heap.size + 1, 0, none⟩)] rfl rfl ?_ ?_
    · unfold execOp
      simp [resolve, Deferred.ofValue, invoke, Act.eval, enters_ Tryd.func28 (by kernel_rfl) rfl, wrap3, wrap4]
    have HSd := hS3.step (below_drew1 (Below.refl w3.heap.size w3))
    have HMd := hM3.trans (hS3.move (below_drew1 (Below.refl _ _)))
    have HGd := blk_drew hG3
    clear n0 n3 kk hS3 hM3 hG3
    refine (IHa 2 _ w3.drew (by omega) (by omega) (by (try simp only [List.length_append, List.length_cons, List.length_nil]); omega) HSd).mono ?_
    rintro e w4 ⟨rfl, hS4, hM4⟩
    have hG4 := hM4.blk HGd hgne (by decide)
    replace hM4 := HMd.trans hM4
    clear HSd HMd HGd
    refine ⟨_, rfl, ?_⟩
    refine hK.out _ _ ?_
    clear hK K
    refine norm_ (a' := ?_) ?_ ?_
    rotate_left
    · show Act.put _ (some 89) _ = _
      simp only [Act.put, List.setIfInBounds_toArray, List.set_cons_zero, List.set_cons_succ, i64_w, i32_w]
      rfl
    refine done_ (by kernel_rfl) ?_
    have n0 : w4.cell? ⟨w.heap.size, 0, none⟩ = some (.int .i64 f0) := (blk_cell hG4 0).trans rfl
    go_wp2_with fail
    refine start_ (n := 7) (S := (fun w' => w'.cell? ⟨w.heap.size, 0, none⟩ = some (.int .i64 f0))) (ds := [6]) #[false, false, false, false, false, false, false] (by kernel_rfl) rfl rfl n0 (fun hHeld => ?_)
    refine pure_ (i := 1) (N := some 91) (v := ?_) (a' := ?_) #[false, true, false, false, false, false, false] rfl rfl (by kernel_rfl) (fun _ _ _ h => hq_text h) (Or.inl ⟨by rfl, ?_⟩) ?_ ?_
    rotate_left
    · intro w'
      go_simp
      with_reducible rfl
    rotate_left
    · simp only [Act.put, List.setIfInBounds_toArray, List.set_cons_zero, List.set_cons_succ, i64_w, i32_w]
      rfl
    refine take_ (i := 2) (N := some 92) (v := ?_) (a' := ?_) #[false, true, true, false, false, false, false] rfl rfl (by kernel_rfl) (fun _ _ _ h => hq_text h) (Or.inl ⟨by rfl, ?_⟩) hHeld ?_ ?_
    rotate_left
    · rintro w' s0
      go_simp
      with_reducible rfl
    rotate_left
    · simp only [Act.put, List.setIfInBounds_toArray, List.set_cons_zero, List.set_cons_succ, i64_w, i32_w]
      rfl
    refine one_ (i := 0) (N := some 90) #[true, true, true, false, false, false, false] rfl rfl (by kernel_rfl) (by decide) (fun K hK => ?_)
    refine goes_ Tryd.func32 (by kernel_rfl) rfl #[] (by rfl) rfl rfl (by simp) ?_
    refine (infix_calls w4.drew).mono ?_
    rintro e wi ⟨rfl, hmi, hbi⟩
    have hBi : Below w4.heap.size w4 wi := below_step (below_drew1 (Below.refl _ _)) hbi
    have hSi := hS4.step hBi
    have hMi := hM4.trans (hS4.move hBi)
    have hGi := blk_below hG4 hBi
    clear n0 hS4 hM4 hG4 hBi hbi
    refine ⟨_, rfl, ?_⟩
    refine hK.out _ _ ((blk_cell hGi 0).trans rfl) (fun hHeld => ?_)
    clear hK K
    refine norm_ (a' := ?_) ?_ ?_
    rotate_left
    · show Act.put _ (some 90) _ = _
      simp only [Act.put, List.setIfInBounds_toArray, List.set_cons_zero, List.set_cons_succ, i64_w, i32_w]
      rfl
    refine one_ (i := 3) (N := some 93) #[true, true, true, true, false, false, false] rfl rfl (by kernel_rfl) (by decide) (fun K hK => ?_)
    refine goes_ Tryd.func31 (by kernel_rfl) rfl #[.map (some w4.heap.size), .int .i64 f0] (by rfl) rfl rfl (by simp [Act.eval]) ?_
    have hsc := symbol_calls w4.heap.size infixL f0 wi infix_nodup hmi
    rw [HNM.out] at hsc
    refine hsc.mono ?_
    clear hsc hmi
    rintro e wj ⟨rfl, hbj⟩
    have hSj := hSi.step hbj
    have hMj := hMi.trans (hSi.move hbj)
    have hGj := blk_below hGi hbj
    clear hSi hMi hGi hbj
    refine ⟨_, rfl, ?_⟩
    refine hK.out _ _ ((blk_cell hGj 0).trans rfl) (fun hHeld => ?_)
    clear hK K
    refine norm_ (a' := ?_) ?_ ?_
    rotate_left
    · show Act.put _ (some 93) _ = _
      simp only [Act.put, List.setIfInBounds_toArray, List.set_cons_zero, List.set_cons_succ, i64_w, i32_w]
      rfl
    have hln1 : ¬ (9223372036854775807 < 1 + nm.length) := by omega
    have hln2 : ¬ (9223372036854775807 < 1 + nm.length + 1) := by omega
    refine pure_ (i := 4) (N := some 94) (v := ?_) (a' := ?_) #[true, true, true, true, true, false, false] rfl rfl (by kernel_rfl) (fun _ _ _ h => hq_text h) (Or.inl ⟨by rfl, ?_⟩) ?_ ?_
    rotate_left
    · intro w'
      go_simp
      with_reducible rfl
    rotate_left
    · simp only [Act.put, List.setIfInBounds_toArray, List.set_cons_zero, List.set_cons_succ, i64_w, i32_w]
      rfl
    refine pure_ (i := 5) (N := some 95) (v := ?_) (a' := ?_) #[true, true, true, true, true, true, false] rfl rfl (by kernel_rfl) (fun _ _ _ h => hq_text h) (Or.inl ⟨by rfl, ?_⟩) ?_ ?_
    rotate_left
    · intro w'
      go_simp
      with_reducible rfl
    rotate_left
    · simp only [Act.put, List.setIfInBounds_toArray, List.set_cons_zero, List.set_cons_succ, i64_w, i32_w]
      rfl
    refine last_ (i := 6) (N := some 96) #[true, true, true, true, true, true, true] rfl rfl (by kernel_rfl) (by decide) (fun K hK => ?_)
    refine goes_ Tryd.func30 (by kernel_rfl) rfl #[.pointer (some ⟨w0.heap.size, 0, none⟩), .string ((⟨#[32]⟩ : ByteArray) ++ (⟨nm.toArray⟩ : ByteArray) ++ (⟨#[32]⟩ : ByteArray))] (by rfl) rfl rfl (by simp [Act.eval]) ?_
    have hdat : ((⟨#[32]⟩ : ByteArray) ++ (⟨nm.toArray⟩ : ByteArray) ++ (⟨#[32]⟩ : ByteArray)).data.toList = 32 :: (nm ++ [32]) := by simp [ByteArray.data_append]
    have hln : ((acc3 ++ a.txt 2)).length + ((⟨#[32]⟩ : ByteArray) ++ (⟨nm.toArray⟩ : ByteArray) ++ (⟨#[32]⟩ : ByteArray)).data.toList.length ≤ 100000000 := by
      rw [hdat]
      simp only [List.length_append, List.length_cons, List.length_nil]
      omega
    refine (ws_calls w0 ge (some ad) xs.length cap ((acc3 ++ a.txt 2)) ((⟨#[32]⟩ : ByteArray) ++ (⟨nm.toArray⟩ : ByteArray) ++ (⟨#[32]⟩ : ByteArray)) wj hSj hln).mono ?_
    rintro e w5 ⟨rfl, hS5, hM5⟩
    rw [hdat] at hS5
    have hG5 := hM5.blk hGj hgne (by decide)
    replace hM5 := hMj.trans hM5
    clear hSj hMj hGj hdat hln hln1 hln2 hHeld
    refine ⟨_, rfl, ?_⟩
    refine hK.out _ _ ?_
    clear hK K
    refine norm_ (a' := ?_) ?_ ?_
    rotate_left
    · show Act.put _ (some 96) _ = _
      simp only [Act.put, List.setIfInBounds_toArray, List.set_cons_zero, List.set_cons_succ, i64_w, i32_w]
      rfl
    refine done_ (by kernel_rfl) ?_
    have n0 : w5.cell? ⟨w0.heap.size + 1, 0, none⟩ = _ := hS5.cells.2
    have n3 : w5.cell? ⟨w.heap.size, 3, none⟩ = some (.slice (some ad3) 2 c3) := (blk_cell hG5 3).trans rfl
    have kk : w5.cell? ⟨ad3.block,ad3.off+1,none⟩ = some (.int .i64 i2) := (hS5.below.cell (World.block_lt_of_cell? _ _ zk2)).trans zk2
    go_wp2_with fail
    refine start_ (n := 8) (S := (fun w' => w'.cell? ⟨w0.heap.size + 1, 0, none⟩ = some (.func (.func 28) #[] #[.pointer (some ⟨ge, 0, none⟩), .pointer (some ⟨w0.heap.size, 0, none⟩), .pointer (some ⟨w0.heap.size + 1, 0, none⟩)]) ∧ w'.cell? ⟨w.heap.size, 3, none⟩ = some (.slice (some ad3) 2 c3) ∧ w'.cell? ⟨ad3.block,ad3.off+1,none⟩ = some (.int .i64 i2))) (ds := [7]) #[false, false, false, false, false, false, false, false] (by kernel_rfl) rfl rfl ⟨n0, n3, kk⟩ (fun hHeld => ?_)
    refine take_ (i := 0) (N := some 97) (v := ?_) (a' := ?_) #[true, false, false, false, false, false, false, false] rfl rfl (by kernel_rfl) (fun _ _ _ h => hq_text h) (Or.inl ⟨by rfl, ?_⟩) hHeld ?_ ?_
    rotate_left
    · rintro w' ⟨s0, s1, s2⟩
      go_simp
      with_reducible rfl
    rotate_left
    · simp only [Act.put, List.setIfInBounds_toArray, List.set_cons_zero, List.set_cons_succ, i64_w, i32_w]
      rfl
    refine pure_ (i := 1) (N := some 98) (v := ?_) (a' := ?_) #[true, true, false, false, false, false, false, false] rfl rfl (by kernel_rfl) (fun _ _ _ h => hq_text h) (Or.inl ⟨by rfl, ?_⟩) ?_ ?_
    rotate_left
    · intro w'
      go_simp
      with_reducible rfl
    rotate_left
    · simp only [Act.put, List.setIfInBounds_toArray, List.set_cons_zero, List.set_cons_succ, i64_w, i32_w]
      rfl
    refine take_ (i := 2) (N := some 99) (v := ?_) (a' := ?_) #[true, true, true, false, false, false, false, false] rfl rfl (by kernel_rfl) (fun _ _ _ h => hq_text h) (Or.inl ⟨by rfl, ?_⟩) hHeld ?_ ?_
    rotate_left
    · rintro w' ⟨s0, s1, s2⟩
      go_simp
      with_reducible rfl
    rotate_left
    · simp only [Act.put, List.setIfInBounds_toArray, List.set_cons_zero, List.set_cons_succ, i64_w, i32_w]
      rfl
    refine pure_ (i := 3) (N := some 100) (v := ?_) (a' := ?_) #[true, true, true, true, false, false, false, false] rfl rfl (by kernel_rfl) (fun _ _ _ h => hq_text h) (Or.inl ⟨by rfl, ?_⟩) ?_ ?_
    rotate_left
    · intro w'
      go_simp
      with_reducible rfl
    rotate_left
    · simp only [Act.put, List.setIfInBounds_toArray, List.set_cons_zero, List.set_cons_succ, i64_w, i32_w]
      rfl
    refine take_ (i := 4) (N := some 101) (v := ?_) (a' := ?_) #[true, true, true, true, true, false, false, false] rfl rfl (by kernel_rfl) (fun _ _ _ h => hq_text h) (Or.inl ⟨by rfl, ?_⟩) hHeld ?_ ?_
    rotate_left
    · rintro w' ⟨s0, s1, s2⟩
      go_simp
      with_reducible rfl
    rotate_left
    · simp only [Act.put, List.setIfInBounds_toArray, List.set_cons_zero, List.set_cons_succ, i64_w, i32_w]
      rfl
    refine pure_ (i := 5) (N := some 102) (v := ?_) (a' := ?_) #[true, true, true, true, true, true, false, false] rfl rfl (by kernel_rfl) (fun _ _ _ h => hq_text h) (Or.inl ⟨by rfl, ?_⟩) ?_ ?_
    rotate_left
    · intro w'
      go_simp
      with_reducible rfl
    rotate_left
    · simp only [Act.put, List.setIfInBounds_toArray, List.set_cons_zero, List.set_cons_succ, i64_w, i32_w]
      rfl
    refine pure_ (i := 6) (N := some 103) (v := ?_) (a' := ?_) #[true, true, true, true, true, true, true, false] rfl rfl (by kernel_rfl) (fun _ _ _ h => hq_text h) (Or.inl ⟨by rfl, ?_⟩) ?_ ?_
    rotate_left
    · intro w'
      go_simp
      with_reducible rfl
    rotate_left
    · simp only [Act.put, List.setIfInBounds_toArray, List.set_cons_zero, List.set_cons_succ, i64_w, i32_w]
      rfl
    refine last_ (i := 7) (N := some 104) #[true, true, true, true, true, true, true, true] rfl rfl (by kernel_rfl) (by decide) (fun K hK => ?_)
    refine call_ 28 #[.int .i64 i2, .int .i64 3, .pointer (some ⟨ge, 0, none⟩), .pointer (some ⟨w0.heap.size, 0, none⟩), .pointer (some ⟨w0.heap.size + 1, 0, none⟩)] rfl rfl ?_ ?_
    · unfold execOp
      simp [resolve, Deferred.ofValue, invoke, Act.eval, enters_ Tryd.func28 (by kernel_rfl) rfl, wrap3, wrap4]
    have HSd := hS5.step (below_drew1 (Below.refl w5.heap.size w5))
    have HMd := hM5.trans (hS5.move (below_drew1 (Below.refl _ _)))
    have HGd := blk_drew hG5
    clear n0 n3 kk hS5 hM5 hG5
    refine (IHb 3 _ w5.drew (by omega) (by omega) (by (try simp only [List.length_append, List.length_cons, List.length_nil]); omega) HSd).mono ?_
    rintro e w6 ⟨rfl, hS6, hM6⟩
    have hG6 := hM6.blk HGd hgne (by decide)
    replace hM6 := HMd.trans hM6
    clear HSd HMd HGd
    refine ⟨_, rfl, ?_⟩
    refine hK.out _ _ ?_
    clear hK K
    refine norm_ (a' := ?_) ?_ ?_
    rotate_left
    · show Act.put _ (some 104) _ = _
      simp only [Act.put, List.setIfInBounds_toArray, List.set_cons_zero, List.set_cons_succ, i64_w, i32_w]
      rfl
    refine done_ (by kernel_rfl) ?_
    have hlt := HLT.out)
  · skip
    refine ⟨.tuple #[], results_none' rfl _ _ _, rfl, ?_, hM6⟩
    rw [decide_eq_false (by omega)]
    rw [HA3.out] at hS6
    simpa [parB, List.append_assoc] using hS6
  · skip
    refine leaves_cons (f := 30) (args := #[.pointer (some ⟨w0.heap.size, 0, none⟩), .string ⟨#[41]⟩]) (by simp) (by simp [go_sem]) ?_
    refine (ws_d w0 ge (some ad) xs.length cap _ ⟨#[41]⟩ w6 hS6 .returning (by (try simp only [List.length_append, List.length_cons, List.length_nil]); omega)).mono ?_
    rintro e u' w7 ⟨rfl, rfl, hS7, hM7⟩
    refine ⟨.tuple #[], results_none' rfl _ _ _, rfl, ?_, hM6.trans hM7⟩
    rw [decide_eq_true (by omega)]
    rw [HA3.out] at hS7
    simpa [parB, List.append_assoc] using hS7
set_option maxHeartbeats 8000000 in
set_option maxRecDepth 100000 in
theorem text_product (w0 : World) (ge : Nat) (A : Option Addr) (cap : Nat) (xs : List S53) (hC : Kd.C k53 w0 A xs.length xs) (hcap : xs.length ≤ cap) (i : Nat) (hi : i < xs.length) (hl : xs.length ≤ 300) (op i1 i2 : Int) (a b : T)
    (hs : (rd_T53 xs (i : Int)).f0 = op) (hx : (rd_T53 xs (i : Int)).f3 = [i1, i2]) (hst : strengthZ op = 3)
    (IHa : WrOk w0 ge A xs.length cap i1 a) (IHb : WrOk w0 ge A xs.length cap i2 b) (l : Int) (acc : List UInt8) (w : World) (hl1 : 1 ≤ l) (hl4 : l ≤ 4)
    (hacc : acc.length + (parB (decide (3 < l)) (a.txt 3 ++ 32 :: (nameM infixL op ++ 32 :: b.txt 4))).length ≤ 1000000) (hS : TSt w0 ge A xs.length cap acc w) :
    Calls Tryd.prog 28 #[.int .i64 i, .int .i64 l, .pointer (some ⟨ge, 0, none⟩), .pointer (some ⟨w0.heap.size, 0, none⟩), .pointer (some ⟨w0.heap.size + 1, 0, none⟩)] w
      (TextP w0 ge A xs.length cap acc (parB (decide (3 < l)) (a.txt 3 ++ 32 :: (nameM infixL op ++ 32 :: b.txt 4))) w) := by
  obtain ⟨ce, cw⟩ := hS.cells
  obtain ⟨ad, A3, c3, rfl, z0, z1, z2, z3, hl3, hz3⟩ := at_T53 hC (i : Int) (by omega) (by omega)
  rw [Int.toNat_natCast] at z0 z1 z2 z3
  have k0 := (hS.below.cell (World.block_lt_of_cell? _ _ z0)).trans z0
  have k1 := (hS.below.cell (World.block_lt_of_cell? _ _ z1)).trans z1
  have k2 := (hS.below.cell (World.block_lt_of_cell? _ _ z2)).trans z2
  have k3 := (hS.below.cell (World.block_lt_of_cell? _ _ z3)).trans z3
  clear z0 z1 z2 z3
  generalize rd_T53 xs (i : Int) = x at *
  obtain ⟨f0, f1, f2, f3⟩ := x
  simp only at hx hs k0 k1 k2 k3 hl3 hz3
  subst hx
  subst hs
  obtain ⟨ad3, rfl, zk1⟩ := Kd.at_int hz3 0 (by omega) (by simp)
  obtain ⟨ad4, e4, zk2⟩ := Kd.at_int hz3 1 (by omega) (by simp)
  obtain rfl : ad3 = ad4 := by injection e4
  rw [show ad3.add (Int.toNat 0) = ad3 from add_zero ad3] at zk1
  replace zk1 : w0.cell? ad3 = some (.int .i64 i1) := zk1
  replace zk2 : w0.cell? (ad3.add 1) = some (.int .i64 i2) := zk2
  rw [add_one] at zk2
  simp only [List.length_cons, List.length_nil, Nat.zero_add, Nat.reduceAdd] at hz3 hl3 k3
  have hnmlen := infix_len f0
  obtain ⟨nm, hnmE⟩ : ∃ nm, nameM infixL f0 = nm := ⟨_, rfl⟩
  rw [hnmE] at hacc hnmlen ⊢
  have HNM := Lib.hid hnmE
  clear hnmE e4
  go_enter_defers Tryd.func28, Tryd.ntmps28
  go_wp2_with fail
  refine (strength_calls _ _).mono ?_
  rintro e w2 ⟨rfl, rfl⟩
  rw [hst]
  have hG : (w.alloc (.cells #[.int .i64 f0, .int .i64 f1, .string f2, .slice (some ad3) 2 c3] 53)).heap[w.heap.size]? = some (.cells #[.int .i64 f0, .int .i64 f1, .string f2, .slice (some ad3) 2 c3] 53 (0, 0)) := blk_new w _
  have hSA := hS.step (below_alloc (Below.refl _ _) (.cells #[.int .i64 f0, .int .i64 f1, .string f2, .slice (some ad3) 2 c3] 53))
  have hMA := hS.move (below_alloc (Below.refl _ _) (.cells #[.int .i64 f0, .int .i64 f1, .string f2, .slice (some ad3) 2 c3] 53))
  have hgne : w.heap.size ≠ w0.heap.size := by have := hS.lt; omega
  by_cases hlt : 3 < l
  case' pos =>
    have hlb : decide ((3 : Int) < l) = true := decide_eq_true hlt
    have hac2 : acc.length + (a.txt 3).length + (b.txt 4).length + nm.length + 4 ≤ 1000000 := by
      rw [decide_eq_true hlt] at hacc
      simp only [parB, if_true, List.length_cons, List.length_append, List.length_nil] at hacc
      omega
    clear hacc
    have HLT := Lib.hid hlt
    clear hlt hst
    go_wp2_with fail
    generalize (w.alloc (.cells #[.int .i64 f0, .int .i64 f1, .string f2, .slice (some ad3) 2 c3] 53)) = wA at hG hSA hMA ⊢
    clear ce cw k0 k1 k2 k3
    refine (ws_calls w0 ge (some ad) xs.length cap acc ⟨#[40]⟩ wA hSA (by show acc.length + 1 ≤ _; omega)).mono ?_
    rintro e w3 ⟨rfl, hS3, hM3⟩
    replace hS3 : TSt w0 ge (some ad) xs.length cap (acc ++ [40]) w3 := hS3
    obtain ⟨acc3, hac3⟩ : ∃ z, z = acc ++ [40] := ⟨_, rfl⟩
    rw [← hac3] at hS3
    have hacl : acc3.length = acc.length + 1 := by rw [hac3]; simp
    have hac4 : acc3.length + (a.txt 3).length + (b.txt 4).length + nm.length + 2 ≤ 1000000 := by omega
    have HA3 := Lib.hid hac3
    clear hac3 hacl hac2
    have hG3 := hM3.blk hG hgne (by decide)
    replace hM3 := hMA.trans hM3
    clear hG hSA hMA
  case' neg =>
    have hlb : decide ((3 : Int) < l) = false := decide_eq_false hlt
    have hac2 : acc.length + (a.txt 3).length + (b.txt 4).length + nm.length + 2 ≤ 1000000 := by
      rw [decide_eq_false hlt] at hacc
      simp only [parB, Bool.false_eq_true, if_false, List.length_cons, List.length_append, List.length_nil] at hacc
      omega
    clear hacc
    have HLT := Lib.hid hlt
    clear hlt hst
    have hbl3 := below_alloc (Below.refl w.heap.size w) (.cells #[.int .i64 f0, .int .i64 f1, .string f2, .slice (some ad3) 2 c3] 53)
    obtain ⟨acc3, hac3⟩ : ∃ z, z = acc := ⟨_, rfl⟩
    have hac4 : acc3.length + (a.txt 3).length + (b.txt 4).length + nm.length + 2 ≤ 1000000 := by rw [hac3]; omega
    have hS3 := hSA
    rw [← hac3] at hS3
    have HA3 := Lib.hid hac3
    clear hac3 hac2
    have hM3 := hMA
    have hG3 := hG
    clear hG hSA hMA hbl3
    go_wp2_with fail
    generalize (w.alloc (.cells #[.int .i64 f0, .int .i64 f1, .string f2, .slice (some ad3) 2 c3] 53)) = w3 at hG3 hS3 hM3 ⊢
    clear ce cw k0 k1 k2 k3
  all_goals (
    have n0 : w3.cell? ⟨w0.heap.size + 1, 0, none⟩ = _ := hS3.cells.2
    have n3 : w3.cell? ⟨w.heap.size, 3, none⟩ = some (.slice (some ad3) 2 c3) := (blk_cell hG3 3).trans rfl
    have kk : w3.cell? ad3 = some (.int .i64 i1) := (hS3.below.cell (World.block_lt_of_cell? _ _ zk1)).trans zk1
    go_wp2_with fail
    refine start_ (n := 7) (S := (fun w' => w'.cell? ⟨w0.heap.size + 1, 0, none⟩ = some (.func (.func 28) #[] #[.pointer (some ⟨ge, 0, none⟩), .pointer (some ⟨w0.heap.size, 0, none⟩), .pointer (some ⟨w0.heap.size + 1, 0, none⟩)]) ∧ w'.cell? ⟨w.heap.size, 3, none⟩ = some (.slice (some ad3) 2 c3) ∧ w'.cell? ad3 = some (.int .i64 i1))) (ds := [6]) #[false, false, false, false, false, false, false] (by kernel_rfl) rfl rfl ⟨n0, n3, kk⟩ (fun hHeld => ?_)
    refine take_ (i := 0) (N := some 83) (v := ?_) (a' := ?_) #[true, false, false, false, false, false, false] rfl rfl (by kernel_rfl) (fun _ _ _ h => hq_text h) (Or.inl ⟨by rfl, ?_⟩) hHeld ?_ ?_
    rotate_left
    · rintro w' ⟨s0, s1, s2⟩
      go_simp
      with_reducible rfl
    rotate_left
    · simp only [Act.put, List.setIfInBounds_toArray, List.set_cons_zero, List.set_cons_succ, i64_w, i32_w]
      rfl
    refine pure_ (i := 1) (N := some 84) (v := ?_) (a' := ?_) #[true, true, false, false, false, false, false] rfl rfl (by kernel_rfl) (fun _ _ _ h => hq_text h) (Or.inl ⟨by rfl, ?_⟩) ?_ ?_
    rotate_left
    · intro w'
      go_simp
      with_reducible rfl
    rotate_left
    · simp only [Act.put, List.setIfInBounds_toArray, List.set_cons_zero, List.set_cons_succ, i64_w, i32_w]
      rfl
    refine take_ (i := 2) (N := some 85) (v := ?_) (a' := ?_) #[true, true, true, false, false, false, false] rfl rfl (by kernel_rfl) (fun _ _ _ h => hq_text h) (Or.inl ⟨by rfl, ?_⟩) hHeld ?_ ?_
    rotate_left
    · rintro w' ⟨s0, s1, s2⟩
      go_simp
      with_reducible rfl
    rotate_left
    · simp only [Act.put, List.setIfInBounds_toArray, List.set_cons_zero, List.set_cons_succ, i64_w, i32_w]
      rfl
    refine pure_ (i := 3) (N := some 86) (v := ?_) (a' := ?_) #[true, true, true, true, false, false, false] rfl rfl (by kernel_rfl) (fun _ _ _ h => hq_text h) (Or.inl ⟨by rfl, ?_⟩) ?_ ?_
    rotate_left
    · intro w'
      go_simp
      with_reducible rfl
    rotate_left
    · simp only [Act.put, List.setIfInBounds_toArray, List.set_cons_zero, List.set_cons_succ, i64_w, i32_w]
      rfl
    refine take_ (i := 4) (N := some 87) (v := ?_) (a' := ?_) #[true, true, true, true, true, false, false] rfl rfl (by kernel_rfl) (fun _ _ _ h => hq_text h) (Or.inl ⟨by rfl, ?_⟩) hHeld ?_ ?_
    rotate_left
    · rintro w' ⟨s0, s1, s2⟩
      go_simp
      with_reducible rfl
    rotate_left
    · simp only [Act.put, List.setIfInBounds_toArray, List.set_cons_zero, List.set_cons_succ, i64_w, i32_w]
      rfl
    refine pure_ (i := 5) (N := some 88) (v := ?_) (a' := ?_) #[true, true, true, true, true, true, false] rfl rfl (by kernel_rfl) (fun _ _ _ h => hq_text h) (Or.inl ⟨by rfl, ?_⟩) ?_ ?_
    rotate_left
    · intro w'
      go_simp
      with_reducible rfl
    rotate_left
    · simp only [Act.put, List.setIfInBounds_toArray, List.set_cons_zero, List.set_cons_succ, i64_w, i32_w]
      rfl
    refine last_ (i := 6) (N := some 89) #[true, true, true, true, true, true, true] rfl rfl (by kernel_rfl) (by decide) (fun K hK => ?_)
    refine call_ 28 #[.int .i64 i1, .int .i64 3, .pointer (some ⟨ge, 0, none⟩), .pointer (some ⟨w0.heap.size, 0, none⟩), .pointer (some ⟨w0.heap.size + 1, 0, none⟩)] rfl rfl ?_ ?_
    · unfold execOp
      simp [resolve, Deferred.ofValue, invoke, Act.eval, enters_ Tryd.func28 (by kernel_rfl) rfl, wrap3, wrap4]
    have HSd := hS3.step (below_drew1 (Below.refl w3.heap.size w3))
    have HMd := hM3.trans (hS3.move (below_drew1 (Below.refl _ _)))
    have HGd := blk_drew hG3
    clear n0 n3 kk hS3 hM3 hG3
    refine (IHa 3 _ w3.drew (by omega) (by omega) (by (try simp only [List.length_append, List.length_cons, List.length_nil]); omega) HSd).mono ?_
    rintro e w4 ⟨rfl, hS4, hM4⟩
    have hG4 := hM4.blk HGd hgne (by decide)
    replace hM4 := HMd.trans hM4
    clear HSd HMd HGd
    refine ⟨_, rfl, ?_⟩
    refine hK.out _ _ ?_
    clear hK K
    refine norm_ (a' := ?_) ?_ ?_
    rotate_left
    · show Act.put _ (some 89) _ = _
      simp only [Act.put, List.setIfInBounds_toArray, List.set_cons_zero, List.set_cons_succ, i64_w, i32_w]
      rfl
    refine done_ (by kernel_rfl) ?_
    have n0 : w4.cell? ⟨w.heap.size, 0, none⟩ = some (.int .i64 f0) := (blk_cell hG4 0).trans rfl
    go_wp2_with fail
    refine start_ (n := 7) (S := (fun w' => w'.cell? ⟨w.heap.size, 0, none⟩ = some (.int .i64 f0))) (ds := [6]) #[false, false, false, false, false, false, false] (by kernel_rfl) rfl rfl n0 (fun hHeld => ?_)
    refine pure_ (i := 1) (N := some 91) (v := ?_) (a' := ?_) #[false, true, false, false, false, false, false] rfl rfl (by kernel_rfl) (fun _ _ _ h => hq_text h) (Or.inl ⟨by rfl, ?_⟩) ?_ ?_
    rotate_left
    · intro w'
      go_simp
      with_reducible rfl
    rotate_left
    · simp only [Act.put, List.setIfInBounds_toArray, List.set_cons_zero, List.set_cons_succ, i64_w, i32_w]
      rfl
    refine take_ (i := 2) (N := some 92) (v := ?_) (a' := ?_) #[false, true, true, false, false, false, false] rfl rfl (by kernel_rfl) (fun _ _ _ h => hq_text h) (Or.inl ⟨by rfl, ?_⟩) hHeld ?_ ?_
    rotate_left
    · rintro w' s0
      go_simp
      with_reducible rfl
    rotate_left
    · simp only [Act.put, List.setIfInBounds_toArray, List.set_cons_zero, List.set_cons_succ, i64_w, i32_w]
      rfl
    refine one_ (i := 0) (N := some 90) #[true, true, true, false, false, false, false] rfl rfl (by kernel_rfl) (by decide) (fun K hK => ?_)
    refine goes_ Tryd.func32 (by kernel_rfl) rfl #[] (by rfl) rfl rfl (by simp) ?_
    refine (infix_calls w4.drew).mono ?_
    rintro e wi ⟨rfl, hmi, hbi⟩
    have hBi : Below w4.heap.size w4 wi := below_step (below_drew1 (Below.refl _ _)) hbi
    have hSi := hS4.step hBi
    have hMi := hM4.trans (hS4.move hBi)
    have hGi := blk_below hG4 hBi
    clear n0 hS4 hM4 hG4 hBi hbi
    refine ⟨_, rfl, ?_⟩
    refine hK.out _ _ ((blk_cell hGi 0).trans rfl) (fun hHeld => ?_)
    clear hK K
    refine norm_ (a' := ?_) ?_ ?_
    rotate_left
    · show Act.put _ (some 90) _ = _
      simp only [Act.put, List.setIfInBounds_toArray, List.set_cons_zero, List.set_cons_succ, i64_w, i32_w]
      rfl
    refine one_ (i := 3) (N := some 93) #[true, true, true, true, false, false, false] rfl rfl (by kernel_rfl) (by decide) (fun K hK => ?_)
    refine goes_ Tryd.func31 (by kernel_rfl) rfl #[.map (some w4.heap.size), .int .i64 f0] (by rfl) rfl rfl (by simp [Act.eval]) ?_
    have hsc := symbol_calls w4.heap.size infixL f0 wi infix_nodup hmi
    rw [HNM.out] at hsc
    refine hsc.mono ?_
    clear hsc hmi
    rintro e wj ⟨rfl, hbj⟩
    have hSj := hSi.step hbj
    have hMj := hMi.trans (hSi.move hbj)
    have hGj := blk_below hGi hbj
    clear hSi hMi hGi hbj
    refine ⟨_, rfl, ?_⟩
    refine hK.out _ _ ((blk_cell hGj 0).trans rfl) (fun hHeld => ?_)
    clear hK K
    refine norm_ (a' := ?_) ?_ ?_
    rotate_left
    · show Act.put _ (some 93) _ = _
      simp only [Act.put, List.setIfInBounds_toArray, List.set_cons_zero, List.set_cons_succ, i64_w, i32_w]
      rfl
    have hln1 : ¬ (9223372036854775807 < 1 + nm.length) := by omega
    have hln2 : ¬ (9223372036854775807 < 1 + nm.length + 1) := by omega
    refine pure_ (i := 4) (N := some 94) (v := ?_) (a' := ?_) #[true, true, true, true, true, false, false] rfl rfl (by kernel_rfl) (fun _ _ _ h => hq_text h) (Or.inl ⟨by rfl, ?_⟩) ?_ ?_
    rotate_left
    · intro w'
      go_simp
      with_reducible rfl
    rotate_left
    · simp only [Act.put, List.setIfInBounds_toArray, List.set_cons_zero, List.set_cons_succ, i64_w, i32_w]
      rfl
    refine pure_ (i := 5) (N := some 95) (v := ?_) (a' := ?_) #[true, true, true, true, true, true, false] rfl rfl (by kernel_rfl) (fun _ _ _ h => hq_text h) (Or.inl ⟨by rfl, ?_⟩) ?_ ?_
    rotate_left
    · intro w'
      go_simp
      with_reducible rfl
    rotate_left
    · simp only [Act.put, List.setIfInBounds_toArray, List.set_cons_zero, List.set_cons_succ, i64_w, i32_w]
      rfl
    refine last_ (i := 6) (N := some 96) #[true, true, true, true, true, true, true] rfl rfl (by kernel_rfl) (by decide) (fun K hK => ?_)
    refine goes_ Tryd.func30 (by kernel_rfl) rfl #[.pointer (some ⟨w0.heap.size, 0, none⟩), .string ((⟨#[32]⟩ : ByteArray) ++ (⟨nm.toArray⟩ : ByteArray) ++ (⟨#[32]⟩ : ByteArray))] (by rfl) rfl rfl (by simp [Act.eval]) ?_
    have hdat : ((⟨#[32]⟩ : ByteArray) ++ (⟨nm.toArray⟩ : ByteArray) ++ (⟨#[32]⟩ : ByteArray)).data.toList = 32 :: (nm ++ [32]) := by simp [ByteArray.data_append]
    have hln : ((acc3 ++ a.txt 3)).length + ((⟨#[32]⟩ : ByteArray) ++ (⟨nm.toArray⟩ : ByteArray) ++ (⟨#[32]⟩ : ByteArray)).data.toList.length ≤ 100000000 := by
      rw [hdat]
      simp only [List.length_append, List.length_cons, List.length_nil]
      omega
    refine (ws_calls w0 ge (some ad) xs.length cap ((acc3 ++ a.txt 3)) ((⟨#[32]⟩ : ByteArray) ++ (⟨nm.toArray⟩ : ByteArray) ++ (⟨#[32]⟩ : ByteArray)) wj hSj hln).mono ?_
    rintro e w5 ⟨rfl, hS5, hM5⟩
    rw [hdat] at hS5
    have hG5 := hM5.blk hGj hgne (by decide)
    replace hM5 := hMj.trans hM5
    clear hSj hMj hGj hdat hln hln1 hln2 hHeld
    refine ⟨_, rfl, ?_⟩
    refine hK.out _ _ ?_
    clear hK K
    refine norm_ (a' := ?_) ?_ ?_
    rotate_left
    · show Act.put _ (some 96) _ = _
      simp only [Act.put, List.setIfInBounds_toArray, List.set_cons_zero, List.set_cons_succ, i64_w, i32_w]
      rfl
    refine done_ (by kernel_rfl) ?_
    have n0 : w5.cell? ⟨w0.heap.size + 1, 0, none⟩ = _ := hS5.cells.2
    have n3 : w5.cell? ⟨w.heap.size, 3, none⟩ = some (.slice (some ad3) 2 c3) := (blk_cell hG5 3).trans rfl
    have kk : w5.cell? ⟨ad3.block,ad3.off+1,none⟩ = some (.int .i64 i2) := (hS5.below.cell (World.block_lt_of_cell? _ _ zk2)).trans zk2
    go_wp2_with fail
    refine start_ (n := 8) (S := (fun w' => w'.cell? ⟨w0.heap.size + 1, 0, none⟩ = some (.func (.func 28) #[] #[.pointer (some ⟨ge, 0, none⟩), .pointer (some ⟨w0.heap.size, 0, none⟩), .pointer (some ⟨w0.heap.size + 1, 0, none⟩)]) ∧ w'.cell? ⟨w.heap.size, 3, none⟩ = some (.slice (some ad3) 2 c3) ∧ w'.cell? ⟨ad3.block,ad3.off+1,none⟩ = some (.int .i64 i2))) (ds := [7]) #[false, false, false, false, false, false, false, false] (by kernel_rfl) rfl rfl ⟨n0, n3, kk⟩ (fun hHeld => ?_)
    refine take_ (i := 0) (N := some 97) (v := ?_) (a' := ?_) #[true, false, false, false, false, false, false, false] rfl rfl (by kernel_rfl) (fun _ _ _ h => hq_text h) (Or.inl ⟨by rfl, ?_⟩) hHeld ?_ ?_
    rotate_left
    · rintro w' ⟨s0, s1, s2⟩
      go_simp
      with_reducible rfl
    rotate_left
    · simp only [Act.put, List.setIfInBounds_toArray, List.set_cons_zero, List.set_cons_succ, i64_w, i32_w]
      rfl
    refine pure_ (i := 1) (N := some 98) (v := ?_) (a' := ?_) #[true, true, false, false, false, false, false, false] rfl rfl (by kernel_rfl) (fun _ _ _ h => hq_text h) (Or.inl ⟨by rfl, ?_⟩) ?_ ?_
    rotate_left
    · intro w'
      go_simp
      with_reducible rfl
    rotate_left
    · simp only [Act.put, List.setIfInBounds_toArray, List.set_cons_zero, List.set_cons_succ, i64_w, i32_w]
      rfl
    refine take_ (i := 2) (N := some 99) (v := ?_) (a' := ?_) #[true, true, true, false, false, false, false, false] rfl rfl (by kernel_rfl) (fun _ _ _ h => hq_text h) (Or.inl ⟨by rfl, ?_⟩) hHeld ?_ ?_
    rotate_left
    · rintro w' ⟨s0, s1, s2⟩
      go_simp
      with_reducible rfl
    rotate_left
    · simp only [Act.put, List.setIfInBounds_toArray, List.set_cons_zero, List.set_cons_succ, i64_w, i32_w]
      rfl
    refine pure_ (i := 3) (N := some 100) (v := ?_) (a' := ?_) #[true, true, true, true, false, false, false, false] rfl rfl (by kernel_rfl) (fun _ _ _ h => hq_text h) (Or.inl ⟨by rfl, ?_⟩) ?_ ?_
    rotate_left
    · intro w'
      go_simp
      with_reducible rfl
    rotate_left
    · simp only [Act.put, List.setIfInBounds_toArray, List.set_cons_zero, List.set_cons_succ, i64_w, i32_w]
      rfl
    refine take_ (i := 4) (N := some 101) (v := ?_) (a' := ?_) #[true, true, true, true, true, false, false, false] rfl rfl (by kernel_rfl) (fun _ _ _ h => hq_text h) (Or.inl ⟨by rfl, ?_⟩) hHeld ?_ ?_
    rotate_left
    · rintro w' ⟨s0, s1, s2⟩
      go_simp
      with_reducible rfl
    rotate_left
    · simp only [Act.put, List.setIfInBounds_toArray, List.set_cons_zero, List.set_cons_succ, i64_w, i32_w]
      rfl
    refine pure_ (i := 5) (N := some 102) (v := ?_) (a' := ?_) #[true, true, true, true, true, true, false, false] rfl rfl (by kernel_rfl) (fun _ _ _ h => hq_text h) (Or.inl ⟨by rfl, ?_⟩) ?_ ?_
    rotate_left
    · intro w'
      go_simp
      with_reducible rfl
    rotate_left
    · simp only [Act.put, List.setIfInBounds_toArray, List.set_cons_zero, List.set_cons_succ, i64_w, i32_w]
      rfl
    refine pure_ (i := 6) (N := some 103) (v := ?_) (a' := ?_) #[true, true, true, true, true, true, true, false] rfl rfl (by kernel_rfl) (fun _ _ _ h => hq_text h) (Or.inl ⟨by rfl, ?_⟩) ?_ ?_
    rotate_left
    · intro w'
      go_simp
      with_reducible rfl
    rotate_left
    · simp only [Act.put, List.setIfInBounds_toArray, List.set_cons_zero, List.set_cons_succ, i64_w, i32_w]
      rfl
    refine last_ (i := 7) (N := some 104) #[true, true, true, true, true, true, true, true] rfl rfl (by kernel_rfl) (by decide) (fun K hK => ?_)
    refine call_ 28 #[.int .i64 i2, .int .i64 4, .pointer (some ⟨ge, 0, none⟩), .pointer (some ⟨w0.heap.size, 0, none⟩), .pointer (some ⟨w0.heap.size + 1, 0, none⟩)] rfl rfl ?_ ?_
    · unfold execOp
      simp [resolve, Deferred.ofValue, invoke, Act.eval, enters_ Tryd.func28 (by kernel_rfl) rfl, wrap3, wrap4]
    have HSd := hS5.step (below_drew1 (Below.refl w5.heap.size w5))
    have HMd := hM5.trans (hS5.move (below_drew1 (Below.refl _ _)))
    have HGd := blk_drew hG5
    clear n0 n3 kk hS5 hM5 hG5
    refine (IHb 4 _ w5.drew (by omega) (by omega) (by (try simp only [List.length_append, List.length_cons, List.length_nil]); omega) HSd).mono ?_
    rintro e w6 ⟨rfl, hS6, hM6⟩
    have hG6 := hM6.blk HGd hgne (by decide)
    replace hM6 := HMd.trans hM6
    clear HSd HMd HGd
    refine ⟨_, rfl, ?_⟩
    refine hK.out _ _ ?_
    clear hK K
    refine norm_ (a' := ?_) ?_ ?_
    rotate_left
    · show Act.put _ (some 104) _ = _
      simp only [Act.put, List.setIfInBounds_toArray, List.set_cons_zero, List.set_cons_succ, i64_w, i32_w]
      rfl
    refine done_ (by kernel_rfl) ?_
    have hlt := HLT.out)
  · skip
    refine ⟨.tuple #[], results_none' rfl _ _ _, rfl, ?_, hM6⟩
    rw [decide_eq_false (by omega)]
    rw [HA3.out] at hS6
    simpa [parB, List.append_assoc] using hS6
  · skip
    refine leaves_cons (f := 30) (args := #[.pointer (some ⟨w0.heap.size, 0, none⟩), .string ⟨#[41]⟩]) (by simp) (by simp [go_sem]) ?_
    refine (ws_d w0 ge (some ad) xs.length cap _ ⟨#[41]⟩ w6 hS6 .returning (by (try simp only [List.length_append, List.length_cons, List.length_nil]); omega)).mono ?_
    rintro e u' w7 ⟨rfl, rfl, hS7, hM7⟩
    refine ⟨.tuple #[], results_none' rfl _ _ _, rfl, ?_, hM6.trans hM7⟩
    rw [decide_eq_true (by omega)]
    rw [HA3.out] at hS7
    simpa [parB, List.append_assoc] using hS7
end Go.Proofs.YtenecpmonodjaaaDoor.PAll

/- expr.Text, walked by hand: the canonical text of the tree. -/
namespace Go.Proofs.YtenecpmonodjaaaDoor.PAll
open Go.RowKit Go.Proofs.YtenecpmonodjaaaDoorW.PrintWords Go.Proofs.YtenecpmonodjaaaDoorW.PrintLast Go.Proofs.YtenecpmonodjaaaDoorW.PrintMore
open Go.Proofs.YtenecpmonodjaaaDoor.Obs
set_option linter.unusedVariables false
set_option linter.unusedSimpArgs false

theorem cut_le {xs : List S53} {m n : Nat} {l : List S53} (h : (xs.drop m).take n = l) (hl : l.length = n) (hn : 1 ≤ n) : m + n ≤ xs.length := by
  have := congrArg List.length h
  rw [List.length_take, List.length_drop, hl] at this
  omega
theorem txt_strong {t : T} {l : Int} (h : l ≤ strengthZ t.op) : t.txt l = t.body := by
  unfold T.txt weaker; rw [decide_eq_false (by omega)]; rfl
theorem text_tree (w0 : World) (ge : Nat) (A : Option Addr) (cap : Nat) (xs : List S53) (hC : Kd.C k53 w0 A xs.length xs) (hcap : xs.length ≤ cap) (hT : TabP w0) (hl : xs.length ≤ 300) :
    ∀ (t : T) (m : Nat), t.ok → (xs.drop m).take t.size = t.flat m → WrOk w0 ge A xs.length cap (((m + t.size : Nat) : Int) - 1) t
  | .num n, m, ho, hc => by
    intro l acc w h1 h4 hacc hS
    have hx := rd_of_cut (show (xs.drop m).take 1 = [_] from hc)
    have hle := cut_le hc (T.flat_len _ _) (T.size_pos _)
    have hi : (((m + (T.num n).size : Nat) : Int)) - 1 = (m : Int) := by simp only [T.size]; omega
    rw [txt_strong (show l ≤ strengthZ 1 by show l ≤ 5; omega)] at hacc
    rw [hi, txt_strong (show l ≤ strengthZ 1 by show l ≤ 5; omega)]
    have hd : dflt (rd_T53 xs (m : Int)) [] = (T.num n).body := by
      rw [hx]
      show ([] ++ (if (1 : Int) = 1 then Lib.itoa n else [])) ++ [] ++ [] = _
      rw [if_pos rfl]
      unfold Lib.itoa
      rw [if_neg (by have := ho.1; omega)]
      simp [T.body]
    rw [← hd] at hacc ⊢
    exact text_dflt w0 ge A cap xs hC hcap hT m (by simp only [T.size] at hle; omega) hl [] (by rw [hx]; rfl) (by rw [hx]; rfl) (by simp) (fun h => absurd rfl h) (by rw [hx]; exact ho) (fun j t h => by simp at h) l acc w h1 h4 hacc hS
  | .name s, m, ho, hc => by
    intro l acc w h1 h4 hacc hS
    have hx := rd_of_cut (show (xs.drop m).take 1 = [_] from hc)
    have hle := cut_le hc (T.flat_len _ _) (T.size_pos _)
    have hi : (((m + (T.name s).size : Nat) : Int)) - 1 = (m : Int) := by simp only [T.size]; omega
    rw [txt_strong (show l ≤ strengthZ 2 by show l ≤ 5; omega)] at hacc
    rw [hi, txt_strong (show l ≤ strengthZ 2 by show l ≤ 5; omega)]
    have hd : dflt (rd_T53 xs (m : Int)) [] = (T.name s).body := by
      rw [hx]
      show (s.data.toList ++ (if (2 : Int) = 1 then Lib.itoa 0 else [])) ++ [] ++ [] = s.data.toList
      rw [if_neg (by decide)]
      simp
    rw [← hd] at hacc ⊢
    exact text_dflt w0 ge A cap xs hC hcap hT m (by simp only [T.size] at hle; omega) hl [] (by rw [hx]; rfl) (by rw [hx]; rfl) (by simp) (fun h => absurd rfl h) (by rw [hx]; exact ⟨by show (0 : Int) ≤ 0; omega, by show (0 : Int) ≤ 1000000; omega⟩) (fun j t h => by simp at h) l acc w h1 h4 hacc hS
  | .neg a, m, ho, hc => by
    intro l acc w h1 h4 hacc hS
    have hle := cut_le hc (T.flat_len _ _) (T.size_pos _)
    obtain ⟨c1, c2⟩ := cut_left (show (xs.drop m).take (a.size + 1) = _ from hc) (T.flat_len a m)
    have hx := rd_of_cut c2
    have hi : (((m + (T.neg a).size : Nat) : Int)) - 1 = ((m + a.size : Nat) : Int) := by simp only [T.size]; omega
    rw [txt_strong (show l ≤ strengthZ 12 by show l ≤ 4; omega)] at hacc
    rw [hi, txt_strong (show l ≤ strengthZ 12 by show l ≤ 4; omega)]
    exact text_neg w0 ge A cap xs hC hcap (m + a.size) (by simp only [T.size] at hle; omega) hl (((m + a.size : Nat) : Int) - 1) a (by rw [hx]) (by rw [hx]) (text_tree w0 ge A cap xs hC hcap hT hl a m ho c1) l acc w h1 h4 hacc hS
  | .bin op a b, m, ho, hc => by
    intro l acc w h1 h4 hacc hS
    have hle := cut_le hc (T.flat_len _ _) (T.size_pos _)
    simp only [T.size] at hle
    obtain ⟨c1, c2⟩ := cut_left (show (xs.drop m).take (a.size + (b.size + 1)) = _ by rw [← Nat.add_assoc]; exact hc) (T.flat_len a m)
    obtain ⟨c3, c4⟩ := cut_left c2 (T.flat_len b _)
    have hx := rd_of_cut c4
    have hi : (((m + (T.bin op a b).size : Nat) : Int)) - 1 = ((m + a.size + b.size : Nat) : Int) := by simp only [T.size]; omega
    have iha := text_tree w0 ge A cap xs hC hcap hT hl a m ho.2.1 c1
    have ihb := text_tree w0 ge A cap xs hC hcap hT hl b (m + a.size) ho.2.2 c3
    rw [hi]
    have hlt : m + a.size + b.size < xs.length := by omega
    rcases strength_cases op ho.1 with h | h | h | h
    · have hst : strengthZ op = 1 := by rcases h with rfl | rfl <;> rfl
      have hb : (T.bin op a b).body = a.txt 2 ++ 32 :: (nameM infixL op ++ 32 :: b.txt 2) := by
        simp only [T.body]
        rw [if_neg (by omega), hst, show leftZ op = 2 by unfold leftZ; rw [if_pos hst]]
        rfl
      have ht : (T.bin op a b).txt l = parB (decide ((1 : Int) < l)) (a.txt 2 ++ 32 :: (nameM infixL op ++ 32 :: b.txt 2)) := by
        show parB (decide (strengthZ op < l)) (T.bin op a b).body = _
        rw [hb, hst]
      rw [ht] at hacc ⊢
      exact text_weak w0 ge A cap xs hC hcap (m + a.size + b.size) hlt hl op _ _ a b (by rw [hx]) (by rw [hx]) hst iha ihb l acc w h1 h4 hacc hS
    · have hst : strengthZ op = 2 := by rcases h with rfl | rfl <;> rfl
      have hb : (T.bin op a b).body = a.txt 2 ++ 32 :: (nameM infixL op ++ 32 :: b.txt 3) := by
        simp only [T.body]
        rw [if_neg (by omega), show leftZ op = 2 by unfold leftZ; rw [if_neg (by omega), hst], hst]
        rfl
      have ht : (T.bin op a b).txt l = parB (decide ((2 : Int) < l)) (a.txt 2 ++ 32 :: (nameM infixL op ++ 32 :: b.txt 3)) := by
        show parB (decide (strengthZ op < l)) (T.bin op a b).body = _
        rw [hb, hst]
      rw [ht] at hacc ⊢
      exact text_sum w0 ge A cap xs hC hcap (m + a.size + b.size) hlt hl op _ _ a b (by rw [hx]) (by rw [hx]) hst iha ihb l acc w h1 h4 hacc hS
    · have hst : strengthZ op = 3 := by rcases h with rfl | rfl <;> rfl
      have hb : (T.bin op a b).body = a.txt 3 ++ 32 :: (nameM infixL op ++ 32 :: b.txt 4) := by
        simp only [T.body]
        rw [if_neg (by omega), show leftZ op = 3 by unfold leftZ; rw [if_neg (by omega), hst], hst]
        rfl
      have ht : (T.bin op a b).txt l = parB (decide ((3 : Int) < l)) (a.txt 3 ++ 32 :: (nameM infixL op ++ 32 :: b.txt 4)) := by
        show parB (decide (strengthZ op < l)) (T.bin op a b).body = _
        rw [hb, hst]
      rw [ht] at hacc ⊢
      exact text_product w0 ge A cap xs hC hcap (m + a.size + b.size) hlt hl op _ _ a b (by rw [hx]) (by rw [hx]) hst iha ihb l acc w h1 h4 hacc hS
    · have hst : strengthZ op = 5 := by rcases h with rfl | rfl <;> rfl
      rw [txt_strong (show l ≤ strengthZ op by omega)] at hacc ⊢
      have hd : dflt (rd_T53 xs ((m + a.size + b.size : Nat) : Int)) [a, b] = (T.bin op a b).body := by
        rw [hx]
        show ([] ++ (if op = 1 then _ else [])) ++ _ ++ _ = _
        rw [if_neg (by omega), if_neg (by simp)]
        simp only [T.body, argsB]
        rw [if_pos hst]
        simp
      rw [← hd] at hacc ⊢
      refine text_dflt w0 ge A cap xs hC hcap hT (m + a.size + b.size) hlt hl [a, b] (by rw [hx]; exact hst) (by rw [hx]; rfl) (by simp) (fun _ => by rw [hx]; show op = 7 ∨ op = 8 ∨ op = 9; omega) (by rw [hx]; exact ⟨by show (0 : Int) ≤ 0; omega, by show (0 : Int) ≤ 1000000; omega⟩) (fun j t hj => ?_) l acc w h1 h4 hacc hS
      rw [hx]
      match j, hj with
      | 0, hj => injection hj with hj; subst hj; exact iha
      | 1, hj => injection hj with hj; subst hj; exact ihb
      | j + 2, hj => simp at hj
  | .ite a b c, m, ho, hc => by
    intro l acc w h1 h4 hacc hS
    have hle := cut_le hc (T.flat_len _ _) (T.size_pos _)
    simp only [T.size] at hle
    obtain ⟨c1, c2⟩ := cut_left (show (xs.drop m).take (a.size + (b.size + (c.size + 1))) = _ by rw [← Nat.add_assoc, ← Nat.add_assoc]; exact hc) (T.flat_len a m)
    obtain ⟨c3, c4⟩ := cut_left c2 (T.flat_len b _)
    obtain ⟨c5, c6⟩ := cut_left c4 (T.flat_len c _)
    have hx := rd_of_cut c6
    have hi : (((m + (T.ite a b c).size : Nat) : Int)) - 1 = ((m + a.size + b.size + c.size : Nat) : Int) := by simp only [T.size]; omega
    have iha := text_tree w0 ge A cap xs hC hcap hT hl a m ho.1 c1
    have ihb := text_tree w0 ge A cap xs hC hcap hT hl b (m + a.size) ho.2.1 c3
    have ihc := text_tree w0 ge A cap xs hC hcap hT hl c (m + a.size + b.size) ho.2.2 c5
    rw [txt_strong (show l ≤ strengthZ 9 by show l ≤ 5; omega)] at hacc
    rw [hi, txt_strong (show l ≤ strengthZ 9 by show l ≤ 5; omega)]
    have hd : dflt (rd_T53 xs ((m + a.size + b.size + c.size : Nat) : Int)) [a, b, c] = (T.ite a b c).body := by
      rw [hx]
      show ([] ++ (if (9 : Int) = 1 then _ else [])) ++ _ ++ _ = _
      rw [if_neg (by decide), if_neg (by simp)]
      simp [T.body, argsB]
    rw [← hd] at hacc ⊢
    refine text_dflt w0 ge A cap xs hC hcap hT (m + a.size + b.size + c.size) (by omega) hl [a, b, c] (by rw [hx]; rfl) (by rw [hx]; rfl) (by simp) (fun _ => by rw [hx]; exact .inr (.inr rfl)) (by rw [hx]; exact ⟨by show (0 : Int) ≤ 0; omega, by show (0 : Int) ≤ 1000000; omega⟩) (fun j t hj => ?_) l acc w h1 h4 hacc hS
    rw [hx]
    match j, hj with
    | 0, hj => injection hj with hj; subst hj; exact iha
    | 1, hj => injection hj with hj; subst hj; exact ihb
    | 2, hj => injection hj with hj; subst hj; exact ihc
    | j + 3, hj => simp at hj
end Go.Proofs.YtenecpmonodjaaaDoor.PAll

/- expr.Text, walked by hand. -/
namespace Go.Proofs.YtenecpmonodjaaaDoor.PAll
open Go.RowKit Go.Proofs.YtenecpmonodjaaaDoorW.PrintWords Go.Proofs.YtenecpmonodjaaaDoorW.PrintLast Go.Proofs.YtenecpmonodjaaaDoorW.PrintMore
open Go.Proofs.YtenecpmonodjaaaDoor.Obs
set_option linter.unusedVariables false
set_option linter.unusedSimpArgs false

def TextR (xs : List S53) (w : World) (e : Ending) (w' : World) : Prop :=
  ((validX xs = false ∧ e = .returned (.tuple #[.string ⟨#[]⟩, .int .i64 1])) ∨ ∃ t, GoodT t ∧ xs = t.flat 0 ∧ e = .returned (.tuple #[.string ⟨t.body.toArray⟩, .int .i64 0])) ∧ Below w.heap.size w w'
set_option maxHeartbeats 4000000 in
set_option maxRecDepth 100000 in
theorem text_calls (A : Option Addr) (cap : Nat) (xs : List S53) (w : World) (hC : Kd.C k53 w A xs.length xs) (hc : xs.length ≤ cap) (hT : TabP w) : Calls Tryd.prog 15 #[.slice A xs.length cap] w (TextR xs w) := by
  have hmf : ∀ (fn : Fn) (first cap : Array Value) (w : World), (Instr.makeFunc fn first cap).run Tryd.prog w = .ok (.func fn first cap) w := fun _ _ _ _ => rfl
  go_enter Tryd.func15, Tryd.ntmps15
  have hB0 : Below w.heap.size w (w.alloc (.cells #[.slice A xs.length cap] 23)) := below_alloc (Below.refl _ _) _
  have hE0 : (w.alloc (.cells #[.slice A xs.length cap] 23)).heap[w.heap.size]? = some (.cells #[.slice A xs.length cap] 23 (0, 0)) := blk_new w _
  go_wp2_with fail
  generalize w.alloc (.cells #[.slice A xs.length cap] 23) = wa at hB0 hE0 ⊢
  refine (valid_calls A cap xs wa (Kd.C_below hC hB0) hc).mono ?_
  rintro e w1 ⟨rfl, hb1⟩
  have hB1 := below_step hB0 hb1
  have hE1 := blk_below hE0 hb1
  clear hB0 hE0 hb1
  cases hv : validX xs with
  | false =>
    have HV := Lib.hid hv
    clear hv
    go_wp2
    go_ret2
    exact ⟨.inl ⟨HV.out, rfl⟩, hB1⟩
  | true =>
    obtain ⟨t, hg, ht⟩ := (valid_iff xs).1 hv
    have HT := Lib.hid ht
    have hlen : xs.length = t.size := by rw [ht, T.flat_len]
    have HLen := Lib.hid hlen
    have hln2 : xs.length ≤ 300 := by have := hg.2.2; omega
    have hln1 : 1 ≤ xs.length := by have := t.size_pos; omega
    have hge : w.heap.size < w1.heap.size := blk_lt hE1
    clear hv hlen ht
    have ce : w1.cell? ⟨w.heap.size, 0, none⟩ = some (.slice A xs.length cap) := (blk_cell hE1 0).trans rfl
    have ne1 := lt_ne0 hge
    have ne2 := lt_ne (k := 1) hge
    have ne3 := lt_ne0' hge
    have ne4 := lt_ne' (k := 1) hge
    go_wp2_with fail
    clear ce ne1 ne2 ne3 ne4
    generalize hW : (w1.alloc (Obj.cells #[Value.pointer none, Value.slice none 0 0] 62)).alloc (Obj.cells #[Value.func (Fn.func 28) #[] #[Value.pointer (some ⟨w.heap.size, 0, none⟩), Value.pointer (some ⟨w1.heap.size, 0, none⟩), Value.pointer (some ⟨w1.heap.size + 1, 0, none⟩)]] 63) = wv
    have s1 : (w1.alloc (Obj.cells #[Value.pointer none, Value.slice none 0 0] 62)).heap.size = w1.heap.size + 1 := alloc_size _ _
    have hS : TSt w1 w.heap.size A xs.length cap [] wv := by
      rw [← hW]
      refine ⟨hge, below_alloc (below_alloc (Below.refl _ _) _) _, blk_alloc (blk_alloc hE1 _) _, (builderF_new w1).alloc _, ?_⟩
      have h := blk_new (w1.alloc (Obj.cells #[Value.pointer none, Value.slice none 0 0] 62)) (Obj.cells #[Value.func (Fn.func 28) #[] #[Value.pointer (some ⟨w.heap.size, 0, none⟩), Value.pointer (some ⟨w1.heap.size, 0, none⟩), Value.pointer (some ⟨w1.heap.size + 1, 0, none⟩)]] 63)
      rw [s1] at h
      exact h
    clear hW s1
    have hbl := body_len t hg.1
    have hsz := hg.2.2
    have htr := text_tree w1 w.heap.size A cap xs (Kd.C_below hC hB1) hc (hT.below hB1) (by have := HLen.out; omega) t 0 hg.1 (by rw [List.drop_zero, HT.out, List.take_of_length_le (by rw [T.flat_len]; exact Nat.le_refl _)]) 1 [] wv (by omega) (by omega) (by rw [txt_one]; show 0 + _ ≤ _; omega) hS
    rw [show (((0 + t.size : Nat) : Int) - 1) = (xs.length : Int) - 1 by have := HLen.out; omega, txt_one] at htr
    refine htr.mono ?_
    clear htr
    rintro e w2 ⟨rfl, hS2, hM2⟩
    rw [List.nil_append] at hS2
    go_wp2_with fail
    refine (Tryd.Builder_String_any_k w1.heap.size w1.heap.size t.body w2 hS2.bd (by have := hS2.lt; omega)).mono ?_
    rintro e w3 ⟨rfl, _, hb3, _⟩
    have hB3 : Below w.heap.size w w3 := (hB1.trans (below_less hS2.below hB1.size)).trans (below_less hb3 hB1.size)
    go_wp2
    go_ret2
    exact ⟨.inr ⟨t, hg, HT.out, rfl⟩, hB3⟩
end Go.Proofs.YtenecpmonodjaaaDoor.PAll
