/- Answers that come with rounds enough. In Lean alone. -/
import Derived.Test.YtenecpmonodjaaaGreatDoorHValid
import Derived.Test.YtenecpmonodjaaaGreatDoorHHead
import Derived.Test.YtenecpmonodjaaaGreatDoorPAllx4
namespace Go.Proofs.YtenecpmonodjaaaGreatDoor.PAll
open Go.RowKit Go.Proofs.YtenecpmonodjaaaGreatDoorW.PrintWords Go.Proofs.YtenecpmonodjaaaGreatDoorW.PrintLast Go.Proofs.YtenecpmonodjaaaGreatDoorW.PrintMore
open Go.Proofs.YtenecpmonodjaaaGreatDoor.Obs
set_option linter.unusedVariables false
set_option linter.unusedSimpArgs false

/-- With rounds enough, r. -/
def EvS {α : Type} (g : Nat → Option α) (r : α) : Prop := ∃ K, ∀ k, K ≤ k → g k = some r
theorem EvS.step {α : Type} {g h : Nat → Option α} {r : α} (hs : ∀ k, g (k + 1) = h k) (H : EvS h r) : EvS g r := by
  obtain ⟨K, hK⟩ := H
  refine ⟨K + 1, fun k hk => ?_⟩
  obtain ⟨m, rfl⟩ : ∃ m, k = m + 1 := ⟨k - 1, by omega⟩
  rw [hs]
  exact hK m (by omega)
theorem EvS.at {α : Type} {g : Nat → Option α} {r : α} (H : EvS g r) : ∃ k, g k = some r := by
  obtain ⟨K, hK⟩ := H
  exact ⟨K, hK K (Nat.le_refl _)⟩
theorem EvS.some {α : Type} {g : Nat → Option α} {r : α} (hs : ∀ k, g (k + 1) = some r) : EvS g r := by
  refine ⟨1, fun k hk => ?_⟩
  obtain ⟨m, rfl⟩ : ∃ m, k = m + 1 := ⟨k - 1, by omega⟩
  exact hs m
theorem wrap_nat (n : Nat) (h : n ≤ 1000000) : wrap64 ((n : Int) + 1) = ((n + 1 : Nat) : Int) := by unfold wrap64; omega

end Go.Proofs.YtenecpmonodjaaaGreatDoor.PAll

/- few (of the laws of layer 23): it answers, and what follows where it answers true. -/
namespace Go.Proofs.YtenecpmonodjaaaGreatDoor.PAll
open Go.RowKit Go.Proofs.YtenecpmonodjaaaGreatDoorW.PrintWords Go.Proofs.YtenecpmonodjaaaGreatDoorW.PrintLast Go.Proofs.YtenecpmonodjaaaGreatDoorW.PrintMore
open Go.Proofs.YtenecpmonodjaaaGreatDoor.Obs
set_option linter.unusedVariables false
set_option linter.unusedSimpArgs false

theorem few21_l0 (xs : List S57) : ∀ (d i : Nat), i + d = min xs.length 310 →
    ∃ r, EvS (fun k => observatoryref21_Few.l0 k xs i) r ∧ (r = true → xs.length ≤ 310 ∧ ∀ x ∈ xs.drop i, x.f3.length ≤ 4) := by
  intro d
  induction d with
  | zero =>
    intro i hi
    refine ⟨if (xs.length : Int) ≤ 60 then true else if (xs.length : Int) > 298 then decide ((xs.length : Int) ≤ 310) else false, ?_, ?_⟩
    · have key : ∀ k, observatoryref21_Few.j1 (k + 1) xs i false = some (if (xs.length : Int) ≤ 60 then true else if (xs.length : Int) > 298 then decide ((xs.length : Int) ≤ 310) else false) := by
        intro k
        simp only [observatoryref21_Few.j1]
        rw [if_neg (by decide)]
        (repeat' split) <;> rfl
      refine EvS.step (h := fun k => observatoryref21_Few.j1 k xs i false) (fun k => ?_) (EvS.some key)
      simp only [observatoryref21_Few.l0]
      by_cases h : (i : Int) < xs.length
      · rw [if_pos h, decide_eq_false (by omega)]
      · rw [if_neg h]
    · intro h
      have h3 : xs.length ≤ 310 := by
        split at h
        · omega
        · split at h
          · have := of_decide_eq_true h; omega
          · cases h
      refine ⟨h3, fun x hx => ?_⟩
      rw [List.drop_eq_nil_of_le (by omega)] at hx
      cases hx
  | succ d ih =>
    intro i hi
    have hil : i < xs.length := by omega
    obtain ⟨x, hx⟩ : ∃ x, rd_T57 xs (i : Int) = x := ⟨_, rfl⟩
    have hxe : xs[i] = x := by
      rw [← hx]
      show _ = xs.getD i z57
      rw [List.getD_eq_getElem?_getD, List.getElem?_eq_getElem hil]; rfl
    have hdr : xs.drop i = x :: xs.drop (i + 1) := by rw [List.drop_eq_getElem_cons hil, hxe]
    have step : ∀ k, observatoryref21_Few.l0 (k + 1) xs i = observatoryref21_Few.j1 k xs i true := by
      intro k
      simp only [observatoryref21_Few.l0]
      rw [if_pos (by omega), decide_eq_true (by omega)]
    have step2 : ∀ k, observatoryref21_Few.j1 (k + 1) xs i true = if (x.f3.length : Int) > 4 then some false else if (x.f2.size : Int) > 30 then some false else observatoryref21_Few.l0 k xs ((i + 1 : Nat) : Int) := by
      intro k
      simp only [observatoryref21_Few.j1]
      rw [if_pos trivial, if_pos (by omega), if_pos (by omega), hx, wrap_nat i (by omega)]
    by_cases h1 : (x.f3.length : Int) > 4
    · refine ⟨false, EvS.step (h := fun k => observatoryref21_Few.j1 k xs i true) step (EvS.some (fun k => ?_)), fun h => by cases h⟩
      rw [step2, if_pos h1]
    · by_cases h2 : (x.f2.size : Int) > 30
      · refine ⟨false, EvS.step (h := fun k => observatoryref21_Few.j1 k xs i true) step (EvS.some (fun k => ?_)), fun h => by cases h⟩
        rw [step2, if_neg h1, if_pos h2]
      · obtain ⟨r, hr, hf⟩ := ih (i + 1) (by omega)
        refine ⟨r, EvS.step (h := fun k => observatoryref21_Few.j1 k xs i true) step (EvS.step (h := fun k => observatoryref21_Few.l0 k xs ((i + 1 : Nat) : Int)) (fun k => ?_) hr), fun h => ⟨(hf h).1, fun y hy => ?_⟩⟩
        · rw [step2, if_neg h1, if_neg h2]
        · rw [hdr] at hy
          rcases List.mem_cons.1 hy with rfl | hy
          · omega
          · exact (hf h).2 y hy
theorem few23_l0 (xs : List S57) (l : List S36) : ∀ (d i : Nat), i + d = min l.length 12 →
    ∃ r, EvS (fun k => observatoryref23_Few.l0 k xs l i) r ∧ (r = true → (l.length ≤ 12 ∧ xs.length ≤ 310 ∧ ∀ x ∈ xs, x.f3.length ≤ 4) ∧ ∀ v ∈ l.drop i, v.f0.size ≤ 40) := by
  intro d
  induction d with
  | zero =>
    intro i hi
    obtain ⟨r, ⟨K, hK⟩, hf⟩ := few21_l0 xs (min xs.length 310) 0 (by omega)
    have h0 : ∀ k, K ≤ k → observatoryref21_Few.f k xs = some r := hK
    have step : ∀ k, observatoryref23_Few.l0 (k + 1) xs l i = observatoryref23_Few.j1 k xs l i false := by
      intro k
      simp only [observatoryref23_Few.l0]
      by_cases h : (i : Int) < l.length
      · rw [if_pos h, decide_eq_false (by omega)]
      · rw [if_neg h]
    refine ⟨r && decide ((l.length : Int) ≤ 12), EvS.step step ⟨K + 1, fun k hk => ?_⟩, fun h => ?_⟩
    · obtain ⟨m, rfl⟩ : ∃ m, k = m + 1 := ⟨k - 1, by omega⟩
      simp only [observatoryref23_Few.j1]
      rw [if_neg (by decide), h0 m (by omega)]
      cases r <;> simp
    · rw [Bool.and_eq_true] at h
      obtain ⟨h1, h2⟩ := hf h.1
      have hl12 : l.length ≤ 12 := by have := of_decide_eq_true h.2; omega
      exact ⟨⟨hl12, h1, by rw [List.drop_zero] at h2; exact h2⟩, fun v hv => by rw [List.drop_eq_nil_of_le (by omega)] at hv; cases hv⟩
  | succ d ih =>
    intro i hi
    have step : ∀ k, observatoryref23_Few.l0 (k + 1) xs l i = observatoryref23_Few.j1 k xs l i true := by
      intro k
      simp only [observatoryref23_Few.l0]
      rw [if_pos (by omega), decide_eq_true (by omega)]
    have step2 : ∀ k, observatoryref23_Few.j1 (k + 1) xs l i true = if ((rd_T36 l i).f0.size : Int) > 40 then some false else observatoryref23_Few.l0 k xs l ((i + 1 : Nat) : Int) := by
      intro k
      simp only [observatoryref23_Few.j1]
      rw [if_pos trivial, if_pos (by omega), if_pos (by omega), wrap_nat i (by omega)]
    by_cases h1 : ((rd_T36 l i).f0.size : Int) > 40
    · refine ⟨false, EvS.step (h := fun k => observatoryref23_Few.j1 k xs l i true) step (EvS.some (fun k => ?_)), fun h => by cases h⟩
      rw [step2, if_pos h1]
    · obtain ⟨r, hr, hf⟩ := ih (i + 1) (by omega)
      refine ⟨r, EvS.step (h := fun k => observatoryref23_Few.j1 k xs l i true) step (EvS.step (h := fun k => observatoryref23_Few.l0 k xs l ((i + 1 : Nat) : Int)) (fun k => ?_) hr), fun h => ⟨(hf h).1, fun v hv => ?_⟩⟩
      · rw [step2, if_neg h1]
      · have hil : i < l.length := by omega
        rw [List.drop_eq_getElem_cons hil] at hv
        rcases List.mem_cons.1 hv with rfl | hv
        · have e : rd_T36 l (i : Int) = l[i] := by
            show l.getD i z36 = _
            rw [List.getD_eq_getElem?_getD, List.getElem?_eq_getElem hil]; rfl
          rw [e] at h1
          omega
        · exact (hf h).2 v hv
theorem few_all (xs : List S57) (l : List S36) : ∃ r, EvS (fun k => observatorylaw23_few.f k xs l) r ∧ (r = true → (l.length ≤ 12 ∧ xs.length ≤ 310 ∧ ∀ x ∈ xs, x.f3.length ≤ 4) ∧ ∀ v ∈ l, v.f0.size ≤ 40) := by
  obtain ⟨r, ⟨K, hr⟩, hf⟩ := few23_l0 xs l (min l.length 12) 0 (by omega)
  refine ⟨r, ⟨K, fun k hk => ?_⟩, fun h => ⟨(hf h).1, by have := (hf h).2; rw [List.drop_zero] at this; exact this⟩⟩
  show observatorylaw23_few.f k xs l = some r
  unfold observatorylaw23_few.f
  have : observatoryref23_Few.f k xs l = some r := hr k hk
  rw [this]
  rfl
theorem few_some (xs : List S57) (l : List S36) : ∃ k r, observatorylaw23_few.f k xs l = some r ∧ (r = true → l.length ≤ 12 ∧ xs.length ≤ 310 ∧ ∀ x ∈ xs, x.f3.length ≤ 4) := by
  obtain ⟨r, hr, hf⟩ := few_all xs l
  obtain ⟨k, hk⟩ := hr.at
  exact ⟨k, r, hk, fun h => (hf h).1⟩
def FewP (xs : List S57) (l : List S36) (w : World) (e : Ending) (w' : World) : Prop :=
  ∃ r, e = .returned (.bool r) ∧ (r = true → l.length ≤ 12 ∧ xs.length ≤ 310 ∧ ∀ x ∈ xs, x.f3.length ≤ 4) ∧ Below w.heap.size w w'
theorem few_calls (A0 : Option Addr) (c0 : Nat) (l0 : List S57) (A1 : Option Addr) (c1 : Nat) (l1 : List S36) (w : World) (hr0 : Kd.C k57 w A0 l0.length l0) (hc0 : l0.length ≤ c0) (hr1 : Kd.C k36 w A1 l1.length l1) (hc1 : l1.length ≤ c1) :
    Calls Tryz.prog 7 #[.slice A0 l0.length c0, .slice A1 l1.length c1] w (FewP l0 l1 w) := by
  obtain ⟨k, r, h, hf⟩ := few_some l0 l1
  refine (observatorylaw23_few.calls k A0 c0 l0 A1 c1 l1 r w hr0 hc0 hr1 hc1 h).mono ?_
  rintro e w' ⟨rfl, ⟨nd, rfl⟩⟩
  exact ⟨r, rfl, hf, pw_below_drewN (Below.refl _ _) nd⟩
theorem few_none (A0 : Option Addr) (c0 : Nat) (l0 : List S57) (w : World) (hr0 : Kd.C k57 w A0 l0.length l0) (hc0 : l0.length ≤ c0) :
    Calls Tryz.prog 7 #[.slice A0 l0.length c0, .slice none 0 0] w (FewP l0 [] w) :=
  few_calls A0 c0 l0 none 0 [] w hr0 hc0 (vars_none w) (Nat.le_refl _)
end Go.Proofs.YtenecpmonodjaaaGreatDoor.PAll
