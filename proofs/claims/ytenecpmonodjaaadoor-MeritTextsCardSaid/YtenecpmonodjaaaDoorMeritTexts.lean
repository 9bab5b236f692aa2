/- MeritTexts (of the laws of layer 23), walked by hand: it answers true. -/
import Derived.Test.YtenecpmonodjaaaDoorHHead
import Derived.Test.YtenecpmonodjaaaDoorFew
import Derived.Test.YtenecpmonodjaaaDoorHText
import Derived.WalkKit
namespace Go.Proofs.YtenecpmonodjaaaDoor.PAll
open Go.RowKit Go.Proofs.YtenecpmonodjaaaDoorW.PrintWords Go.Proofs.YtenecpmonodjaaaDoorW.PrintLast Go.Proofs.YtenecpmonodjaaaDoorW.PrintMore
open Go.Proofs.YtenecpmonodjaaaDoor.Obs
set_option linter.unusedVariables false
set_option linter.unusedSimpArgs false

set_option maxHeartbeats 2000000 in
set_option maxRecDepth 100000 in
theorem texts_calls (A0 : Option Addr) (c0 : Nat) (a : List S53) (A3 : Option Addr) (c3 : Nat) (l : List S44) (w : World)
    (h0 : Kd.C k53 w A0 a.length a) (hc0 : a.length ≤ c0) (h3 : Kd.C k44 w A3 l.length l) (hc3 : l.length ≤ c3) (hT : TabP w) :
    Calls Tryd.prog 6 #[.slice A0 a.length c0, .slice A3 l.length c3] w (HeadP w) := by
  go_enter Tryd.func6, Tryd.ntmps6
  go_wp2_with fail
  refine (head_calls w).mono ?_
  rintro e w1 ⟨rfl, hb⟩
  go_wp2_with fail
  refine (few_calls A0 c0 a A3 c3 l w1 (Kd.C_below h0 hb) hc0 (Kd.C_below h3 hb) hc3).mono ?_
  rintro e w2 ⟨r1, rfl, hf1, hb2⟩
  replace hb := below_step hb hb2
  clear hb2
  cases r1 with
  | false =>
    go_wp2
    go_ret
    exact ⟨rfl, hb⟩
  | true =>
    obtain ⟨hl, la, ka⟩ := hf1 rfl
    clear hf1
    go_wp2_with fail
    refine (valid_calls A0 c0 a w2 (Kd.C_below h0 hb) hc0).mono ?_
    rintro e w3 ⟨rfl, hb2⟩
    replace hb := below_step hb hb2
    clear hb2
    cases hv : validX a with
    | false =>
      clear hv
      go_wp2
      go_ret
      exact ⟨rfl, hb⟩
    | true =>
      have HV := Lib.hid hv
      clear hv
      go_wp2_with fail
      refine (text_calls A0 c0 a w3 (Kd.C_below h0 hb) hc0 (hT.below hb)).mono ?_
      rintro e w4 ⟨hr, hb2⟩
      replace hb := below_step hb hb2
      clear hb2
      obtain ⟨t, hg, ht, rfl⟩ : ∃ t, GoodT t ∧ a = t.flat 0 ∧ e = .returned (.tuple #[.string ⟨t.body.toArray⟩, .int .i64 0]) := by
        rcases hr with ⟨hr, _⟩ | hr
        · rw [HV.out] at hr; cases hr
        · exact hr
      clear hr
      have HT := Lib.hid ht
      have hp := parse_body t hg
      rw [← ht] at hp
      clear ht
      go_wp2_with fail
      refine (expr_Parse.calls ⟨t.body.toArray⟩ a 0 0 w4 (show some (parseX t.body) = _ by rw [hp])).mono ?_
      clear hp
      rintro e w5 ⟨v, rfl, hR, hb2⟩
      obtain ⟨A, c, rfl, hc, hC⟩ := Kd.R_reads hR
      replace hb := below_step hb hb2
      clear hb2 hR
      go_wp2_with fail
      obtain ⟨⟨x, e1⟩, hx⟩ : ∃ p, evalX a l = p := ⟨_, rfl⟩
      refine (eval_calls A0 c0 a A3 c3 l w5 (Kd.C_below h0 hb) hc0 (Kd.C_below h3 hb) hc3 (by omega)).mono ?_
      rw [hx]
      rintro e w6 ⟨rfl, hb2⟩
      have hC6 := Kd.C_below hC hb2
      replace hb := below_step hb hb2
      clear hb2 hC
      go_wp2_with fail
      refine (eval_calls A c a A3 c3 l w6 hC6 hc (Kd.C_below h3 hb) hc3 (by omega)).mono ?_
      rw [hx]
      clear hx
      rintro e w7 ⟨rfl, hb2⟩
      replace hb := below_step hb hb2
      clear hb2
      go_wp2
      go_ret
      exact ⟨rfl, hb⟩
end Go.Proofs.YtenecpmonodjaaaDoor.PAll
