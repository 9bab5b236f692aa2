/- MeritClamps: clamped values lie from 1 to 10000, clamping again changes nothing, values in this range stay, and clamping keeps the order; for every two ints. -/
import Derived.Test.YtenecpmonodjaaaDoorPAllx7
namespace Go.Proofs.YtenecpmonodjaaaDoor.Pure
open Go.RowKit Go.Proofs.YtenecpmonodjaaaDoor.PAll Go.Proofs.YtenecpmonodjaaaDoorW.PrintWords Go.Proofs.YtenecpmonodjaaaDoorW.PrintLast Go.Proofs.YtenecpmonodjaaaDoorW.PrintMore
set_option linter.unusedSimpArgs false

theorem clamp_lo (a : Int) : 1 ≤ mn (mx a 1) 10000 ∧ mn (mx a 1) 10000 ≤ 10000 := by unfold mn mx; (repeat' split) <;> omega
theorem clamp_in (a : Int) (h : 1 ≤ a) (h2 : a ≤ 10000) : mn (mx a 1) 10000 = a := by unfold mn mx; (repeat' split) <;> omega
theorem clamp_le (a b : Int) (h : a ≤ b) : mn (mx a 1) 10000 ≤ mn (mx b 1) 10000 := by unfold mn mx; (repeat' split) <;> omega
theorem MeritClamps : observatorylaw23_MeritClamps.Pure := by
  intro a0 a1 _ _
  unfold observatorylaw23_MeritClamps.f observatorylaw23_head.f merit_Clamp.f
  simp only [Option.bind_some]
  have h1 := clamp_lo (mn a0 a1)
  have h2 := clamp_lo (mx a0 a1)
  have h3 := clamp_le (mn a0 a1) (mx a0 a1) (by unfold mn mx; (repeat' split) <;> omega)
  have h4 := clamp_in _ h1.1 h1.2
  have h5 := clamp_in _ h2.1 h2.2
  rw [if_neg (by omega), if_neg (by omega), if_neg (by omega), if_pos h4, if_pos h5, if_pos trivial]
  by_cases c1 : a0 < 1
  · rw [if_pos c1]
  · rw [if_neg c1]
    by_cases c2 : a0 > 10000
    · rw [if_pos c2]
    · rw [if_neg c2, clamp_in a0 (by omega) (by omega)]
      simp
end Go.Proofs.YtenecpmonodjaaaDoor.Pure
