/- MeritMatchesReference (of the laws of layer 23): what it computes is true, and so it answers true. -/
import Derived.Test.YtenecpmonodjaaaGreatDoorRefEval
import Derived.Test.YtenecpmonodjaaaGreatDoorFew
import Derived.Test.YtenecpmonodjaaaGreatDoorHHead
import Derived.Test.YtenecpmonodjaaaGreatDoorPAllx14
namespace Go.Proofs.YtenecpmonodjaaaGreatDoor.PAll
open Go.RowKit Go.Proofs.YtenecpmonodjaaaGreatDoorW.PrintWords Go.Proofs.YtenecpmonodjaaaGreatDoorW.PrintLast Go.Proofs.YtenecpmonodjaaaGreatDoorW.PrintMore
open Go.Proofs.YtenecpmonodjaaaGreatDoor.Obs
set_option linter.unusedVariables false
set_option linter.unusedSimpArgs false

theorem clamp23 (n : Int) : observatoryref23_Clamp.f n = some (mn (mx n 1) 10000) := by
  unfold observatoryref23_Clamp.f mn mx
  (repeat' split) <;> first | rfl | (congr 1; omega) | (exfalso; omega)
theorem matches_pure (xs : List S57) (l : List S36) (n : Int) : ∃ k, observatorylaw23_MeritMatchesReference.f k xs l n = some true := by
  obtain ⟨r, ⟨K, hK⟩, hf⟩ := few_all xs l
  have hh : observatorylaw23_head.f = some true := rfl
  have hK' : ∀ k, K ≤ k → observatorylaw23_few.f k xs l = some r := hK
  clear hK
  cases r with
  | false =>
    refine ⟨K, ?_⟩
    unfold observatorylaw23_MeritMatchesReference.f
    rw [hh, Option.bind_some, hK' K (Nat.le_refl _), Option.bind_some, if_neg (by decide)]
  | true =>
    obtain ⟨⟨h1, _, _⟩, h2⟩ := hf rfl
    obtain ⟨L, hL⟩ := e23 xs l (by omega) h2
    have hL' : ∀ k, L ≤ k → observatoryref23_Eval.f k xs l = some (evalX xs l) := hL
    refine ⟨max K L, ?_⟩
    have hm : merit_Eval.f xs l = some (evalX xs l) := by unfold merit_Eval.f; rw [if_pos (by omega)]
    have hc : merit_Clamp.f n = some (mn (mx n 1) 10000) := rfl
    unfold observatorylaw23_MeritMatchesReference.f
    rw [hh, Option.bind_some, hK' (max K L) (by omega), Option.bind_some, if_pos rfl, hm, Option.bind_some, hL' (max K L) (by omega), Option.bind_some, if_pos rfl, if_pos rfl, if_pos rfl, hc, Option.bind_some, clamp23, Option.bind_some, beq_self_eq_true]
theorem matches_calls (A0 : Option Addr) (c0 : Nat) (xs : List S57) (A1 : Option Addr) (c1 : Nat) (l : List S36) (n : Int) (w : World) (h0 : Kd.C k57 w A0 xs.length xs) (hc0 : xs.length ≤ c0) (h1 : Kd.C k36 w A1 l.length l) (hc1 : l.length ≤ c1) :
    Calls Tryz.prog 3 #[.slice A0 xs.length c0, .slice A1 l.length c1, .int .i64 n] w (HeadP w) := by
  obtain ⟨k, h⟩ := matches_pure xs l n
  exact (observatorylaw23_MeritMatchesReference.calls k A0 c0 xs A1 c1 l n true w h0 hc0 h1 hc1 h).mono fun _ _ h => h
end Go.Proofs.YtenecpmonodjaaaGreatDoor.PAll
