-- Out of the print's texts, what PAllx13, x14, x23 name.
import Derived.Test.YtenecpmonodjaaaGreatDoorPAllx0
namespace Go.Proofs.YtenecpmonodjaaaGreatDoor.PAll
open Go.RowKit Go.Proofs.YtenecpmonodjaaaGreatDoorW.PrintWords Go.Proofs.YtenecpmonodjaaaGreatDoorW.PrintLast Go.Proofs.YtenecpmonodjaaaGreatDoorW.PrintMore
def errW : Option Int → Value
  | none => .nilIface
  | some c => .iface 154 (.int .i64 c)
theorem errW_none : errW none = .nilIface := rfl
theorem errW_some (c : Int) : errW (some c) = .iface 154 (.int .i64 c) := rfl
theorem below_set {w W : World} {g j : Nat} {v : Value} (h : Below w.heap.size w W) (hg : w.heap.size ≤ g) : Below w.heap.size w (W.setCell ⟨g, j, none⟩ v) := h.setCell hg _
end Go.Proofs.YtenecpmonodjaaaGreatDoor.PAll
