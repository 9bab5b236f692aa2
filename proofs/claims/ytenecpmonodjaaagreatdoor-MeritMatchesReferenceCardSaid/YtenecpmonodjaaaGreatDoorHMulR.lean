/- Mul of the reference of layer 22, walked by hand (for values in the range). -/
import Derived.Test.YtenecpmonodjaaaGreatDoorPAllx0
import Derived.WalkKit
namespace Go.Proofs.YtenecpmonodjaaaGreatDoor.PAll
open Go.RowKit Go.Proofs.YtenecpmonodjaaaGreatDoorW.PrintWords Go.Proofs.YtenecpmonodjaaaGreatDoorW.PrintLast Go.Proofs.YtenecpmonodjaaaGreatDoorW.PrintMore
attribute [local go_sem] max2_int min2_int
set_option linter.unusedVariables false
set_option linter.unusedSimpArgs false

def mulR (a b : Int) : Int := if (a.natAbs : Int) = 0 ∨ (b.natAbs : Int) ≤ 1000000000000 / (a.natAbs : Int) then wrap64 (a * b) else if a < 0 ∧ 0 ≤ b ∨ 0 ≤ a ∧ b < 0 then -1000000000001 else 1000000000001
def observatoryref22_Mul.f (a b : Int) : Option Int := if -1000000000000 ≤ a ∧ a ≤ 1000000000000 ∧ -1000000000000 ≤ b ∧ b ≤ 1000000000000 then some (mulR a b) else none
theorem mx_abs (a : Int) (h : -1000000000000 ≤ a) (h2 : a ≤ 1000000000000) : mx a (wrap64 (0 - a)) = (a.natAbs : Int) := by unfold mx wrap64; split <;> omega
theorem mx_abs' (a : Int) (h : -1000000000000 ≤ a) (h2 : a ≤ 1000000000000) : mx a (wrap64 (-a)) = (a.natAbs : Int) := by unfold mx wrap64; split <;> omega
theorem mx_abs2 (a : Int) : mx a (-a) = (a.natAbs : Int) := by unfold mx; split <;> omega
set_option maxHeartbeats 2000000 in
theorem observatoryref22_Mul.calls (a0 a1 r : Int) (w : World) (h : observatoryref22_Mul.f a0 a1 = some r) :
    Calls Tryz.prog 51 #[.int .i64 a0, .int .i64 a1] w fun e w' => e = .returned (.int .i64 r) ∧ Below w.heap.size w w' := by
  unfold observatoryref22_Mul.f at h
  split at h
  · rename_i hb
    obtain ⟨b1, b2, b3, b4⟩ := hb
    injection h with h
    have HR := Aside0.mk h
    clear h
    go_enter Tryz.func51, Tryz.ntmps51
    go_upto_region 3 with (fail)
    obtain ⟨x, hx⟩ : ∃ x : Int, (if a0 < -a0 then -a0 else a0) = x := ⟨_, rfl⟩
    obtain ⟨y, hy⟩ : ∃ y : Int, (if a1 < -a1 then -a1 else a1) = y := ⟨_, rfl⟩
    rw [hx, hy]
    have hx1 : x = (a0.natAbs : Int) := by rw [← hx]; split <;> omega
    have hy1 : y = (a1.natAbs : Int) := by rw [← hy]; split <;> omega
    have HR2 : Aside0 ((if x = 0 ∨ y ≤ 1000000000000 / x then wrap64 (a0 * a1) else if a0 < 0 ∧ 0 ≤ a1 ∨ 0 ≤ a0 ∧ a1 < 0 then -1000000000001 else 1000000000001) = r) := ⟨by
      rw [← HR.out]
      unfold mulR
      rw [← hx1, ← hy1]⟩
    have hx0 : 0 ≤ x ∧ x ≤ 1000000000000 := by omega
    have hy0 : 0 ≤ y ∧ y ≤ 1000000000000 := by omega
    clear HR hx hy hx1 hy1
    by_cases h0 : x = 0
    · subst h0
      rw [if_pos (.inl rfl)] at HR2
      obtain rfl := HR2.out
      clear HR2
      go_wp2_with fail
      go_ret
      exact ⟨rfl, Below.refl _ _⟩
    · have hb0 : (x == 0) = false := beq_eq_false_iff_ne.2 h0
      go_wp2_with fail
      · rename_i h1
        go_ret
        exact ⟨by rw [← HR2.out, if_pos (.inr h1)]; rfl, Below.refl _ _⟩
      · rename_i h1 _ _ hs
        go_ret
        refine ⟨?_, Below.refl _ _⟩
        have hsg : a0 < 0 ∧ 0 ≤ a1 ∨ 0 ≤ a0 ∧ a1 < 0 := by
          by_cases s1 : a0 < 0 <;> by_cases s2 : a1 < 0 <;> simp [s1, s2] at hs ⊢ <;> omega
        rw [← HR2.out, if_neg (fun h => h.elim h0 (fun h => by omega)), if_pos hsg]
        rfl
      · rename_i h1 hs
        go_ret
        refine ⟨?_, Below.refl _ _⟩
        have hsg : ¬ (a0 < 0 ∧ 0 ≤ a1 ∨ 0 ≤ a0 ∧ a1 < 0) := by
          by_cases s1 : a0 < 0 <;> by_cases s2 : a1 < 0 <;> simp [s1, s2] at hs ⊢ <;> omega
        rw [← HR2.out, if_neg (fun h => h.elim h0 (fun h => by omega)), if_neg hsg]
        rfl
  · cases h
end Go.Proofs.YtenecpmonodjaaaGreatDoor.PAll
