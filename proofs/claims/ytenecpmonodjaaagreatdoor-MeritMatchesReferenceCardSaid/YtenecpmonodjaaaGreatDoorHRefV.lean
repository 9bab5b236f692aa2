/- Valid of the reference of layer 21, walked by hand. -/
import Derived.Test.YtenecpmonodjaaaGreatDoorStack
import Derived.Test.YtenecpmonodjaaaGreatDoorRefNode
import Derived.Test.YtenecpmonodjaaaGreatDoorPAllx10
import Derived.WalkKit
import Derived.ArgAppend
namespace Go.Proofs.YtenecpmonodjaaaGreatDoor.PAll
open Go.RowKit Go.Proofs.YtenecpmonodjaaaGreatDoorW.PrintWords Go.Proofs.YtenecpmonodjaaaGreatDoorW.PrintLast Go.Proofs.YtenecpmonodjaaaGreatDoorW.PrintMore
open Go.Proofs.YtenecpmonodjaaaGreatDoor.Obs
attribute [local go_sem] max2_int min2_int
set_option linter.unusedVariables false
set_option linter.unusedSimpArgs false

def observatoryref21_Valid.f (xs : List S57) : Option Bool := some (refV xs)
def RVP (r : Bool) (w : World) (e : Ending) (w' : World) : Prop := e = .returned (.bool r) ∧ Below w.heap.size w w'
theorem rvInfo : (Tryz.prog.info? 3).map (fun i => (i.zero, i.size, i.bytes)) = some (some (.int .i64 0), 1, 8) := by kernel_rfl
theorem rvMade (n : Nat) : madeCells #[.int .i64 0] n = (nums .i64 (List.replicate n 0)).toArray := by
  apply Array.ext
  · simp [madeCells, nums]
  · intro i h1 h2
    simp [madeCells, nums, Nat.mod_one]
/-- The stack of operands: a row that is read; it lies in no block that is written. -/
def OpenIs (w : World) (gd : Nat) (v : Value) (op : List Int) : Prop :=
  ∃ A c, v = .slice A op.length c ∧ op.length ≤ c ∧ (A = none → op.length = 0 ∧ c = 0) ∧ ∀ b, A = some b → ∀ j u, (nums .i64 op)[j]? = some u → (b.add j).block ≠ gd ∧ w.cell? (b.add j) = some u
theorem nums_at (l : List Int) (j : Nat) : (nums .i64 l).toArray[j]? = (l[j]?).map (Value.int .i64) := by
  rw [List.getElem?_toArray]
  unfold nums
  rw [List.getElem?_map]
theorem nums_put (l : List Int) (j : Nat) (v : Int) : (nums .i64 l).toArray.setIfInBounds j (.int .i64 v) = (nums .i64 (l.set j v)).toArray := by
  unfold nums
  rw [List.setIfInBounds_toArray, List.map_set]
theorem at_mid (dp r : List Int) (d : Int) : (dp ++ d :: r)[dp.length]? = some d := by rw [List.getElem?_append_right (Nat.le_refl _), Nat.sub_self]; rfl
theorem set_mid (dp r : List Int) (d v : Int) : (dp ++ d :: r).set dp.length v = dp ++ v :: r := by
  rw [List.set_append, if_neg (by omega), Nat.sub_self]; rfl
theorem at_left (dp r : List Int) (d : Int) (j : Nat) (h : j < dp.length) : (dp ++ d :: r)[j]? = some (dp.getD j 0) := by
  rw [List.getElem?_append_left h, List.getD_eq_getElem?_getD, List.getElem?_eq_getElem h]; rfl
theorem getD_le (dp : List Int) (n : Int) (hn : 0 ≤ n) (h : ∀ d ∈ dp, 1 ≤ d ∧ d ≤ n) (j : Nat) : 0 ≤ dp.getD j 0 ∧ dp.getD j 0 ≤ n := by
  rw [List.getD_eq_getElem?_getD]
  cases hj : dp[j]? with
  | none => exact ⟨Int.le_refl 0, hn⟩
  | some d => have := h d (List.mem_of_getElem? hj); exact ⟨by show 0 ≤ d; omega, by show d ≤ n; omega⟩
theorem depthOf_le (dp : List Int) (n : Int) (hn : 0 ≤ n) (h : ∀ d ∈ dp, 1 ≤ d ∧ d ≤ n) (ks : List Int) : 1 ≤ depthOf dp ks ∧ depthOf dp ks ≤ n + 1 := by
  have key : ∀ (ks : List Int) (a : Int), 1 ≤ a → a ≤ n + 1 → 1 ≤ ks.foldl (fun d k => max d (dp.getD k.toNat 0 + 1)) a ∧ ks.foldl (fun d k => max d (dp.getD k.toNat 0 + 1)) a ≤ n + 1 := by
    intro ks
    induction ks with
    | nil => exact fun a h1 h2 => ⟨h1, h2⟩
    | cons k r ih =>
      intro a h1 h2
      have := getD_le dp n hn h k.toNat
      exact ih (max a (dp.getD k.toNat 0 + 1)) (by omega) (by omega)
  exact key ks 1 (by omega) (by omega)
theorem refV_none {xs : List S57} (h : refGo xs [] [] = none) : refV xs = false := by
  unfold refV
  rw [h]
  split <;> rfl
theorem refGo_one (x : S57) (r : List S57) (op dp : List Int) : refGo (x :: r) op dp = if formedB x = false then none
    else if x.f3.length > op.length then none
    else if x.f3 = op.drop (op.length - x.f3.length) then refGo r (op.take (op.length - x.f3.length) ++ [(dp.length : Int)]) (dp ++ [depthOf dp x.f3]) else none := rfl
theorem openIs_own {w : World} {base gd n : Nat} {v : Value} {op : List Int} (h : w.ownsRow base 3 1 v n (nums .i64 op)) (hn : op.length = n) (hg : gd < base) (h0 : 0 < n) : OpenIs w gd v op := by
  rcases h.2 with ⟨_, h1⟩ | ⟨g, cap, cur, rfl, hbg, hgg, hnc, _⟩
  · omega
  · refine ⟨some ⟨g, 0, none⟩, cap, by rw [hn], by omega, (fun h => by cases h), fun b hb j u hu => ?_⟩
    injection hb with hb
    subst hb
    refine ⟨?_, h.cells (g := g) rfl j u hu⟩
    rw [add_at]
    show g ≠ gd
    omega
set_option maxHeartbeats 2000000 in
set_option maxRecDepth 100000 in
theorem refvalid_calls (A : Option Addr) (cap : Nat) (xs : List S57) (w : World) (hC : Kd.C k57 w A xs.length xs) (hc : xs.length ≤ cap) :
    Calls Tryz.prog 25 #[.slice A xs.length cap] w (RVP (refV xs) w) := by
  go_enter Tryz.func25, Tryz.ntmps25
  by_cases h1 : xs.length < 1
  · have HV := Lib.hid (show refV xs = false by unfold refV; rw [if_pos (.inl h1)])
    have hb : decide ((xs.length : Int) < 1) = true := decide_eq_true (by omega)
    go_wp2_with fail
    go_ret
    exact ⟨by rw [HV.out]; rfl, Below.refl _ _⟩
  · by_cases h2 : 300 < xs.length
    · have HV := Lib.hid (show refV xs = false by unfold refV; rw [if_pos (.inr h2)])
      have hb : decide ((xs.length : Int) < 1) = false := decide_eq_false (by omega)
      have hb' : decide ((300 : Int) < (xs.length : Int)) = true := decide_eq_true (by omega)
      go_wp2_with fail
      go_ret
      exact ⟨by rw [HV.out]; rfl, Below.refl _ _⟩
    · have hb : decide ((xs.length : Int) < 1) = false := decide_eq_false (by omega)
      have hb' : decide ((300 : Int) < (xs.length : Int)) = false := decide_eq_false (by omega)
      have hmk := print_make 54 3 .i64 8 Tryz.underlying54 rvInfo (by decide) xs.length (by omega)
      go_wp2_with fail
      clear hmk
      obtain ⟨wv, hwv⟩ : ∃ wv : World, w.alloc (.cells (madeCells #[.int .i64 0] xs.length) 3) = wv := ⟨_, rfl⟩
      have HG : wv.heap[w.heap.size]? = some (.cells (nums .i64 (List.replicate xs.length 0)).toArray 3 (0, 0)) := by rw [← hwv, ← rvMade]; exact blk_new w _
      have HB := Lib.hid (show Below w.heap.size w wv by rw [← hwv]; exact below_alloc (Below.refl _ _) _)
      have hwz : w.heap.size < wv.heap.size := blk_lt HG
      rw [hwv]
      clear hwv
      obtain ⟨gd, hgd⟩ : ∃ gd, w.heap.size = gd := ⟨_, rfl⟩
      rw [hgd] at HG ⊢
      have HG0 := Lib.hid HG
      clear HG
      go_loopw [3, 5, 6, 7, 8] (fun v3 v5 _ _ _ wr => ∃ (i : Nat) (op dp : List Int), i ≤ xs.length ∧ v5 = .int .i64 i ∧ dp.length = i ∧ op.length ≤ i ∧ (∀ x ∈ op, 0 ≤ x ∧ x < (i : Int)) ∧ Aside0 (∀ d ∈ dp, 1 ≤ d ∧ d ≤ (i : Int)) ∧ Aside0 (refGo xs [] [] = refGo (xs.drop i) op dp) ∧
        Aside0 (OpenIs wr gd v3 op) ∧ Aside0 (wr.heap[gd]? = some (.cells (nums .i64 (dp ++ List.replicate (xs.length - i) 0)).toArray 3 (0, 0))) ∧ Aside0 (Fr (fun k => k = gd) wv wr)) (fun _ v5 _ _ _ _ => xs.length - (intOf v5).toNat)
      case atStart => exact ⟨0, [], [], by omega, rfl, rfl, Nat.le_refl _, (fun _ h => by cases h), ⟨fun _ h => by cases h⟩, ⟨rfl⟩, ⟨⟨none, 0, rfl, Nat.le_refl _, (fun _ => ⟨rfl, rfl⟩), (fun b h => by cases h)⟩⟩, ⟨HG0.out⟩, ⟨Fr.refl _ _⟩⟩
      case round =>
        obtain ⟨i, op, dp, hi, rfl, hdl, hol, hor, HDB, HR, HO, HD, HF⟩ := hrel
        obtain ⟨Ao, co, rfl, hoc, hon, hoo⟩ := HO.out
        by_cases hlt : i < xs.length
        · obtain ⟨ad, A3, c3, rfl, z0, z1, z2, z3, hl3, hz3⟩ := at_T57 hC (i : Int) (by omega) (by omega)
          rw [Int.toNat_natCast] at z0 z1 z2 z3
          have hadlt : (ad.add (i * 4)).block < w.heap.size := World.block_lt_of_cell? _ _ z0
          have hBF : Fr (fun k => k = gd) w wr := (below_fr HB.out _).trans HF.out
          have k0 := hBF.cell z0 (by show ¬ (ad.add (i * 4)).block = gd; omega)
          have k1 := hBF.cell z1 (by show ¬ (ad.add (i * 4)).block = gd; omega)
          have k2 := hBF.cell z2 (by show ¬ (ad.add (i * 4)).block = gd; omega)
          have k3 := hBF.cell z3 (by show ¬ (ad.add (i * 4)).block = gd; omega)
          have hBw : Below w.heap.size w wr := hBF.toBelow (fun b hb he => by have : b = gd := he; omega)
          have hk3 := Kd.C_below hz3 hBw
          obtain ⟨x, hx⟩ : ∃ x, rd_T57 xs (i : Int) = x := ⟨_, rfl⟩
          rw [hx] at k0 k1 k2 k3 hl3 hz3 hk3
          have hdr : xs.drop i = x :: xs.drop (i + 1) := by
            rw [List.drop_eq_getElem_cons hlt, ← hx]
            show _ = xs.getD i z57 :: _
            rw [List.getD_eq_getElem?_getD, List.getElem?_eq_getElem hlt]
            rfl
          have HR1 := Lib.hid (HR.out.trans (by rw [hdr, refGo_one]))
          clear z0 z1 z2 z3 hx hdr HR
          obtain ⟨kn, hkn⟩ := node_some x
          go_wp2_with fail
          refine (observatoryref21_node.calls kn x.f0 x.f1 x.f2 A3 c3 x.f3 (formedB x) wr hk3 hl3 hkn).mono ?_
          rintro e w1 ⟨rfl, hb1⟩
          clear hkn
          cases hfm : formedB x with
          | false =>
            have HV := Lib.hid (refV_none (HR1.out.trans (by rw [if_pos hfm])))
            clear hfm
            go_wp2_with fail
            go_ret
            exact ⟨by rw [HV.out]; rfl, below_step hBw hb1⟩
          | true =>
            have HR2 := Lib.hid (HR1.out.trans (by rw [if_neg (by rw [hfm]; decide)]))
            have hlen := formed_len x hfm
            clear hfm HR1
            have hD1 := Lib.hid (blk_below HD.out hb1)
            have hF1 := Lib.hid (HF.out.trans (below_fr hb1 _))
            have hBw1 := below_step hBw hb1
            have hk31 := Kd.C_below hk3 hb1
            have k31 := (hb1.cell (World.block_lt_of_cell? _ _ k3)).trans k3
            have hoo1 : ∀ b, Ao = some b → ∀ j u, (nums .i64 op)[j]? = some u → (b.add j).block ≠ gd ∧ w1.cell? (b.add j) = some u := fun b hb j u hu => ⟨(hoo b hb j u hu).1, (hb1.cell (World.block_lt_of_cell? _ _ (hoo b hb j u hu).2)).trans (hoo b hb j u hu).2⟩
            have HOO := Lib.hid hoo1
            clear k0 k1 k2 k3 HO HD HF hoo hoo1 hb1 hBw hk3
            by_cases hgt : op.length < x.f3.length
            · have HV := Lib.hid (refV_none (HR2.out.trans (by rw [if_pos hgt])))
              go_wp2_with fail
              go_ret
              exact ⟨by rw [HV.out]; rfl, hBw1⟩
            · have HR3 := Lib.hid (HR2.out.trans (by rw [if_neg hgt]))
              clear HR2
              have hrep : List.replicate (xs.length - i) (0 : Int) = 0 :: List.replicate (xs.length - i - 1) 0 := by
                rw [show xs.length - i = (xs.length - i - 1) + 1 by omega]; rfl
              have hD2 := hD1.out
              rw [hrep] at hD2
              obtain ⟨N, hN⟩ : ∃ N, xs.length - i - 1 = N := ⟨_, rfl⟩
              rw [hN] at hD2
              have cd : w1.cell? ⟨gd, i, none⟩ = some (.int .i64 0) := (blk_cell hD2 i).trans (by rw [nums_at, ← hdl, at_mid]; rfl)
              have fd := blk_frozen hD2 i
              have hD3 := blk_set hD2 i (.int .i64 1)
              rw [nums_put, ← hdl, set_mid, hdl] at hD3
              have HD3 := Lib.hid hD3
              clear hD1 hD2 hD3
              go_wp2_with fail
              have hF3 : Fr (fun k => k = gd) wv (w1.setCell ⟨gd, i, none⟩ (.int .i64 1)) := hF1.out.setCell _ _ (fun _ => rfl)
              have HF3 := Lib.hid hF3
              have hF13 : Fr (fun k => k = gd) w1 (w1.setCell ⟨gd, i, none⟩ (.int .i64 1)) := Fr.setCell1 w1 ⟨gd, i, none⟩ (.int .i64 1)
              have HOO3 := Lib.hid (show ∀ b, Ao = some b → ∀ j u, (nums .i64 op)[j]? = some u → (b.add j).block ≠ gd ∧ (w1.setCell ⟨gd, i, none⟩ (.int .i64 1)).cell? (b.add j) = some u from
                fun b hb j u hu => ⟨(HOO.out b hb j u hu).1, hF13.cell (HOO.out b hb j u hu).2 (HOO.out b hb j u hu).1⟩)
              have HK3 := Lib.hid (hF13.cell k31 (by show ¬ (ad.add (i * 4)).block = gd; omega))
              clear k31 cd fd hF1 hF3 hF13 HOO hBw1 hk31
              have HHD3 := HD3
              obtain ⟨w2, hw2⟩ : ∃ w2, w1.setCell ⟨gd, i, none⟩ (.int .i64 1) = w2 := ⟨_, rfl⟩
              rw [hw2] at HD3 HF3 HOO3 HK3 ⊢
              clear hw2 HHD3
              go_loopw [7, 8] (fun v7 _ wi => ∃ q : Nat, q ≤ x.f3.length ∧ v7 = .int .i64 q ∧ Aside0 (x.f3.take q = (op.drop (op.length - x.f3.length)).take q) ∧
                Aside0 (wi.heap[gd]? = some (.cells (nums .i64 (dp ++ depthOf dp (x.f3.take q) :: List.replicate N 0)).toArray 3 (0, 0))) ∧ Aside0 (Fr (fun k => k = gd) w2 wi)) (fun v7 _ _ => x.f3.length - (intOf v7).toNat)
              case atStart => exact ⟨0, Nat.zero_le _, rfl, ⟨rfl⟩, ⟨HD3.out⟩, ⟨Fr.refl _ _⟩⟩
              case round =>
                obtain ⟨q, hq, rfl, HM, HDq, HFq⟩ := hrel
                by_cases hlq : q < x.f3.length
                · obtain ⟨b, rfl⟩ : ∃ b, Ao = some b := by
                    cases Ao with
                    | none => exact absurd (hon rfl).1 (by omega)
                    | some b => exact ⟨b, rfl⟩
                  have hjl : op.length - x.f3.length + q < op.length := by omega
                  obtain ⟨kid, hkid⟩ : ∃ kid, op[op.length - x.f3.length + q]? = some kid := ⟨_, List.getElem?_eq_getElem hjl⟩
                  have hkm := hor kid (List.mem_of_getElem? hkid)
                  obtain ⟨kn, rfl⟩ := Int.eq_ofNat_of_zero_le hkm.1
                  obtain ⟨hb1, hb3⟩ := HOO3.out b rfl (op.length - x.f3.length + q) (.int .i64 kn) (by unfold nums; rw [List.getElem?_map, hkid]; rfl)
                  have c1 := HFq.out.cell hb3 hb1
                  obtain ⟨ad3, rfl, zk⟩ := Kd.at_int hz3 (q : Int) (by omega) (by omega)
                  rw [rd_nat, Int.toNat_natCast] at zk
                  have hk3lt := World.block_lt_of_cell? _ _ zk
                  have hF2w : Fr (fun k => k = gd) w wr := ((below_fr HB.out _).trans HF3.out).trans HFq.out
                  have c2 := hF2w.cell zk (by show ¬ (ad3.add q).block = gd; omega)
                  have c3' := HFq.out.cell HK3.out (by show ¬ (ad.add (i * 4)).block = gd; omega)
                  obtain ⟨own, hown⟩ : ∃ own, x.f3.getD q 0 = own := ⟨_, rfl⟩
                  rw [hown] at c2
                  have cA : wr.cell? ⟨gd, i, none⟩ = some (.int .i64 (depthOf dp (x.f3.take q))) := (blk_cell HDq.out i).trans (by rw [nums_at, ← hdl, at_mid]; rfl)
                  have cB : wr.cell? ⟨gd, kn, none⟩ = some (.int .i64 (dp.getD kn 0)) := (blk_cell HDq.out kn).trans (by rw [nums_at, at_left _ _ _ _ (by omega)]; rfl)
                  have fA := blk_frozen HDq.out i
                  clear zk
                  have hD0 : depthOf dp (x.f3.take (q + 1)) = max (depthOf dp (x.f3.take q)) (dp.getD own.toNat 0 + 1) := by
                    rw [List.take_succ_eq_append_getElem hlq]
                    unfold depthOf
                    rw [List.foldl_append, List.foldl_cons, List.foldl_nil]
                    have : x.f3[q] = own := by rw [← hown, List.getD_eq_getElem?_getD, List.getElem?_eq_getElem hlq]; rfl
                    rw [this]
                  have HD0 := Lib.hid hD0
                  clear hD0
                  have hD0b := depthOf_le dp i (by omega) HDB.out (x.f3.take q)
                  generalize depthOf dp (x.f3.take q) = D0 at cA HDq HD0 hD0b
                  obtain ⟨dk, hdk⟩ : ∃ dk, dp.getD kn 0 = dk := ⟨_, rfl⟩
                  have hdkb := getD_le dp i (by omega) HDB.out kn
                  rw [hdk] at cB hdkb
                  have hknx : kn < xs.length := by omega
                  go_wp2_with fail
                  · rename_i hown2
                    have hne : x.f3 ≠ op.drop (op.length - x.f3.length) := fun he => by
                      have h1 : x.f3[q]? = some own := by rw [← hown, List.getD_eq_getElem?_getD, List.getElem?_eq_getElem hlq]; rfl
                      rw [he, List.getElem?_drop, hkid] at h1
                      injection h1 with h1
                      rw [h1] at hown2
                      simp at hown2
                    have HV := Lib.hid (refV_none (HR3.out.trans (by rw [if_neg hne])))
                    go_ret
                    exact ⟨by rw [HV.out]; rfl, hF2w.toBelow (fun b hb he => by have : b = gd := he; omega)⟩
                  · rename_i hown2
                    refine start_ (n := 14) (S := (fun w' => w'.cell? ⟨gd, i, none⟩ = some (.int .i64 D0) ∧ w'.cell? ⟨gd, kn, none⟩ = some (.int .i64 dk))) (ds := [13]) #[false, false, false, false, false, false, false, false, false, false, false, false, false, false] (by kernel_rfl) rfl rfl ⟨cA, cB⟩ (fun hHeld => ?_)
                    refine pure_ (i := 0) (N := some 69) (v := ?_) (a' := ?_) #[true, false, false, false, false, false, false, false, false, false, false, false, false, false] rfl rfl (by kernel_rfl) (fun _ _ _ h => h) (Or.inl ⟨by rfl, ?_⟩) ?_ ?_
                    rotate_left
                    · intro w'
                      go_simp
                      with_reducible rfl
                    rotate_left
                    · simp only [Act.put, List.setIfInBounds_toArray, List.set_cons_zero, List.set_cons_succ, i64_w, i32_w]
                      rfl
                    refine pure_ (i := 1) (N := some 70) (v := ?_) (a' := ?_) #[true, true, false, false, false, false, false, false, false, false, false, false, false, false] rfl rfl (by kernel_rfl) (fun _ _ _ h => h) (Or.inl ⟨by rfl, ?_⟩) ?_ ?_
                    rotate_left
                    · intro w'
                      go_simp
                      with_reducible rfl
                    rotate_left
                    · simp only [Act.put, List.setIfInBounds_toArray, List.set_cons_zero, List.set_cons_succ, i64_w, i32_w]
                      rfl
                    refine pure_ (i := 2) (N := some 71) (v := ?_) (a' := ?_) #[true, true, true, false, false, false, false, false, false, false, false, false, false, false] rfl rfl (by kernel_rfl) (fun _ _ _ h => h) (Or.inl ⟨by rfl, ?_⟩) ?_ ?_
                    rotate_left
                    · intro w'
                      go_simp
                      with_reducible rfl
                    rotate_left
                    · simp only [Act.put, List.setIfInBounds_toArray, List.set_cons_zero, List.set_cons_succ, i64_w, i32_w]
                      rfl
                    refine pure_ (i := 3) (N := some 72) (v := ?_) (a' := ?_) #[true, true, true, true, false, false, false, false, false, false, false, false, false, false] rfl rfl (by kernel_rfl) (fun _ _ _ h => h) (Or.inl ⟨by rfl, ?_⟩) ?_ ?_
                    rotate_left
                    · intro w'
                      go_simp
                      with_reducible rfl
                    rotate_left
                    · simp only [Act.put, List.setIfInBounds_toArray, List.set_cons_zero, List.set_cons_succ, i64_w, i32_w]
                      rfl
                    refine pure_ (i := 4) (N := some 73) (v := ?_) (a' := ?_) #[true, true, true, true, true, false, false, false, false, false, false, false, false, false] rfl rfl (by kernel_rfl) (fun _ _ _ h => h) (Or.inl ⟨by rfl, ?_⟩) ?_ ?_
                    rotate_left
                    · intro w'
                      go_simp
                      with_reducible rfl
                    rotate_left
                    · simp only [Act.put, List.setIfInBounds_toArray, List.set_cons_zero, List.set_cons_succ, i64_w, i32_w]
                      rfl
                    refine take_ (i := 5) (N := some 74) (v := ?_) (a' := ?_) #[true, true, true, true, true, true, false, false, false, false, false, false, false, false] rfl rfl (by kernel_rfl) (fun _ _ _ h => h) (Or.inl ⟨by rfl, ?_⟩) hHeld ?_ ?_
                    rotate_left
                    · rintro w' ⟨s0, s1⟩
                      go_simp
                      with_reducible rfl
                    rotate_left
                    · simp only [Act.put, List.setIfInBounds_toArray, List.set_cons_zero, List.set_cons_succ, i64_w, i32_w]
                      rfl
                    refine pure_ (i := 6) (N := some 75) (v := ?_) (a' := ?_) #[true, true, true, true, true, true, true, false, false, false, false, false, false, false] rfl rfl (by kernel_rfl) (fun _ _ _ h => h) (Or.inl ⟨by rfl, ?_⟩) ?_ ?_
                    rotate_left
                    · intro w'
                      go_simp
                      with_reducible rfl
                    rotate_left
                    · simp only [Act.put, List.setIfInBounds_toArray, List.set_cons_zero, List.set_cons_succ, i64_w, i32_w]
                      rfl
                    refine pure_ (i := 7) (N := some 76) (v := ?_) (a' := ?_) #[true, true, true, true, true, true, true, true, false, false, false, false, false, false] rfl rfl (by kernel_rfl) (fun _ _ _ h => h) (Or.inl ⟨by rfl, ?_⟩) ?_ ?_
                    rotate_left
                    · intro w'
                      go_simp
                      with_reducible rfl
                    rotate_left
                    · simp only [Act.put, List.setIfInBounds_toArray, List.set_cons_zero, List.set_cons_succ, i64_w, i32_w]
                      rfl
                    refine pure_ (i := 8) (N := some 77) (v := ?_) (a' := ?_) #[true, true, true, true, true, true, true, true, true, false, false, false, false, false] rfl rfl (by kernel_rfl) (fun _ _ _ h => h) (Or.inl ⟨by rfl, ?_⟩) ?_ ?_
                    rotate_left
                    · intro w'
                      go_simp
                      with_reducible rfl
                    rotate_left
                    · simp only [Act.put, List.setIfInBounds_toArray, List.set_cons_zero, List.set_cons_succ, i64_w, i32_w]
                      rfl
                    refine take_ (i := 9) (N := some 78) (v := ?_) (a' := ?_) #[true, true, true, true, true, true, true, true, true, true, false, false, false, false] rfl rfl (by kernel_rfl) (fun _ _ _ h => h) (Or.inl ⟨by rfl, ?_⟩) hHeld ?_ ?_
                    rotate_left
                    · rintro w' ⟨s0, s1⟩
                      go_simp
                      with_reducible rfl
                    rotate_left
                    · simp only [Act.put, List.setIfInBounds_toArray, List.set_cons_zero, List.set_cons_succ, i64_w, i32_w]
                      rfl
                    refine pure_ (i := 10) (N := some 79) (v := ?_) (a' := ?_) #[true, true, true, true, true, true, true, true, true, true, true, false, false, false] rfl rfl (by kernel_rfl) (fun _ _ _ h => h) (Or.inl ⟨by rfl, ?_⟩) ?_ ?_
                    rotate_left
                    · intro w'
                      go_simp
                      with_reducible rfl
                    rotate_left
                    · simp only [Act.put, List.setIfInBounds_toArray, List.set_cons_zero, List.set_cons_succ, i64_w, i32_w]
                      rfl
                    refine pure_ (i := 11) (N := some 80) (v := ?_) (a' := ?_) #[true, true, true, true, true, true, true, true, true, true, true, true, false, false] rfl rfl (by kernel_rfl) (fun _ _ _ h => h) (Or.inl ⟨by rfl, ?_⟩) ?_ ?_
                    rotate_left
                    · intro w'
                      go_simp
                      with_reducible rfl
                    rotate_left
                    · simp only [Act.put, List.setIfInBounds_toArray, List.set_cons_zero, List.set_cons_succ, i64_w, i32_w]
                      rfl
                    refine pure_ (i := 12) (N := some 81) (v := ?_) (a' := ?_) #[true, true, true, true, true, true, true, true, true, true, true, true, true, false] rfl rfl (by kernel_rfl) (fun _ _ _ h => h) (Or.inl ⟨by rfl, ?_⟩) ?_ ?_
                    rotate_left
                    · intro w'
                      go_simp
                      with_reducible rfl
                    rotate_left
                    · simp only [Act.put, List.setIfInBounds_toArray, List.set_cons_zero, List.set_cons_succ, i64_w, i32_w]
                      rfl
                    refine last_ (i := 13) (N := none) #[true, true, true, true, true, true, true, true, true, true, true, true, true, true] rfl rfl (by kernel_rfl) (by decide) (fun K hK => ?_)
                    have hDd := blk_drew HDq.out
                    have cs : wr.drew.cell? ⟨gd, i, none⟩ = some (.int .i64 D0) := hHeld.1
                    have fs := blk_frozen hDd i
                    refine skip_ (w1 := ?_) (by rfl) rfl ?_ ?_
                    rotate_left
                    · go_simp
                      rfl
                    refine hK.out _ _ ?_
                    clear hK K
                    refine done_ (by kernel_rfl) ?_
                    have hown3 : own = (kn : Int) := by simpa using hown2
                    have hM2 : x.f3.take (q + 1) = (op.drop (op.length - x.f3.length)).take (q + 1) := by
                      rw [List.take_add_one, List.take_add_one, HM.out, List.getElem?_drop, hkid, ← hown3, ← hown, List.getD_eq_getElem?_getD, List.getElem?_eq_getElem hlq]
                      rfl
                    have HM2 := Lib.hid hM2
                    have hv : max D0 (wrap64 (dk + 1)) = depthOf dp (x.f3.take (q + 1)) := by
                      rw [HD0.out, hown3, Int.toNat_natCast, hdk, show wrap64 (dk + 1) = dk + 1 by unfold wrap64; omega]
                    have hD4 := blk_drew (blk_set HDq.out i (.int .i64 (max D0 (wrap64 (dk + 1)))))
                    rw [nums_put, ← hdl, set_mid, hdl, hv] at hD4
                    have HD4 := Lib.hid hD4
                    have HF4 := Lib.hid ((HFq.out.setCell ⟨gd, i, none⟩ (.int .i64 (max D0 (wrap64 (dk + 1)))) (fun _ => rfl)).drew)
                    rw [hv] at HF4 ⊢
                    clear hD4 hv hM2
                    go_wp2_with fail
                    go_roundw
                    case rel => exact ⟨q + 1, by omega, by go_num, ⟨HM2.out⟩, ⟨HD4.out⟩, ⟨HF4.out⟩⟩
                    case measure => simp [intOf]; omega
                · obtain rfl : q = x.f3.length := by omega
                  have hall : x.f3 = op.drop (op.length - x.f3.length) := by
                    have h1 := HM.out
                    rw [List.take_length, List.take_of_length_le (by rw [List.length_drop]; omega)] at h1
                    exact h1
                  have HR4 := Lib.hid (HR3.out.trans (by rw [if_pos hall]))
                  have hF2w : Fr (fun k => k = gd) w wr := ((below_fr HB.out _).trans HF3.out).trans HFq.out
                  obtain ⟨m, hm⟩ : ∃ m, op.length - x.f3.length = m := ⟨_, rfl⟩
                  obtain ⟨i0, hi0, hzz⟩ := Option.map_eq_some_iff.1 rvInfo
                  have hz1 : i0.zero = some (.int .i64 0) := congrArg (fun t => t.1) hzz
                  have hz2 : i0.size = 1 := congrArg (fun t => t.2.1) hzz
                  have hz3' : i0.bytes = 8 := congrArg (fun t => t.2.2) hzz
                  rw [hm] at HR4
                  have hmm : m ≤ op.length := by omega
                  have hsub : (op.length : Int) - (x.f3.length : Int) = (m : Int) := by omega
                  rw [List.take_length] at HDq
                  clear hall HM
                  have hB1 : Below w.heap.size w wr := hF2w.toBelow (fun b hb he => by have : b = gd := he; omega)
                  have a1 : Ao = none → m = 0 ∧ m = 0 := fun h => by have := hon h; omega
                  have a2 : (nums .i64 (op.take m)).length = m * 1 := by rw [nums_length, List.length_take]; omega
                  have a3 : ∀ b, Ao = some b → ∀ j u, (nums .i64 (op.take m))[j]? = some u → (wr.alloc (.cells #[.int .i64 i] 3)).cell? (b.add j) = some u := fun b hb j u hu => by
                    have hu2 : (nums .i64 op)[j]? = some u := by
                      unfold nums at hu ⊢
                      rw [List.map_take, List.getElem?_take] at hu
                      split at hu
                      · exact hu
                      · cases hu
                    obtain ⟨q1, q2⟩ := HOO3.out b hb j u hu2
                    have q3 := HFq.out.cell q2 q1
                    exact ((below_alloc (Below.refl _ _) (.cells #[.int .i64 i] 3)).cell (World.block_lt_of_cell? _ _ q3)).trans q3
                  have a4 : ∀ j u, [Value.int .i64 (i : Int)][j]? = some u → (wr.alloc (.cells #[.int .i64 i] 3)).cell? ((⟨wr.heap.size, 0, none⟩ : Addr).add j) = some u := fun j u hu => by
                    match j, hu with
                    | 0, hu => injection hu with hu; subst hu; exact (blk_cell (blk_new wr _) 0).trans rfl
                  have HA3 := Lib.hid a3
                  have HA4 := Lib.hid a4
                  have HBF := Lib.hid (show Fr (fun k => k = gd) wv wr from HF3.out.trans HFq.out)
                  have HB1 := Lib.hid hB1
                  have HOR := Lib.hid hor
                  clear a3 a4 hB1 hF2w hor
                  go_wp2_with (first | ((with_reducible refine gate_builtin (b := .append) (xs := #[.tmp 91, .tmp 93]) rfl ?_); at_builtin; refine wpList_append_grows _ rfl (.tmp 91) (.tmp 93) 54 rfl 3 i0 (.int .i64 0) 1 8 Tryz.underlying54 hi0 hz1 hz2 hz3' rfl (by decide) Ao m m (nums .i64 (op.take m)) rfl a1 a2 HA3.out ⟨wr.heap.size, 0, none⟩ 1 1 [.int .i64 i] rfl rfl HA4.out (fun u hu => by rw [List.mem_singleton] at hu; subst hu; rfl) (by omega) (by unfold maxLen; omega) (by omega) ?_; intro v' w' hown hgr))
                  have hown2 : w'.ownsRow (wr.alloc (.cells #[.int .i64 i] 3)).heap.size 3 1 v' (m + 1) (nums .i64 (op.take m ++ [(i : Int)])) := by
                    have e : nums .i64 (op.take m ++ [(i : Int)]) = nums .i64 (op.take m) ++ [Value.int .i64 (i : Int)] := by simp [nums]
                    rw [e]; exact hown
                  have hsz : gd < wr.heap.size := blk_lt HDq.out
                  have hO2 : OpenIs w' gd v' (op.take m ++ [(i : Int)]) := openIs_own hown2 (by rw [List.length_append, List.length_take, List.length_singleton]; omega) (by rw [alloc_size]; omega) (by omega)
                  have hD2 : w'.heap[gd]? = some (.cells (nums .i64 ((dp ++ [depthOf dp x.f3]) ++ List.replicate (xs.length - (i + 1)) 0)).toArray 3 (0, 0)) := by
                    rw [hgr.block gd (by rw [alloc_size]; omega) (by simp), List.append_assoc, show xs.length - (i + 1) = N by omega]
                    exact blk_alloc HDq.out _
                  have hF2 : Fr (fun k => k = gd) wv w' := (HBF.out.trans (below_fr (below_alloc (Below.refl wr.heap.size wr) (.cells #[.int .i64 i] 3)) _)).trans ((Fr.grown hgr).mono (fun b _ e => by cases e))
                  have hb2 := depthOf_le dp i (by omega) HDB.out x.f3
                  refine ⟨⟨i + 1, op.take m ++ [(i : Int)], dp ++ [depthOf dp x.f3], by omega, by rfl, by rw [List.length_append, List.length_singleton, hdl], by rw [List.length_append, List.length_take, List.length_singleton]; omega, ?_, ⟨?_⟩, ⟨by rw [← hdl]; rw [hdl]; exact hdl ▸ HR4.out⟩, ⟨hO2⟩, ⟨hD2⟩, ⟨hF2⟩⟩, ?_⟩
                  · intro y hy
                    rcases List.mem_append.1 hy with hy | hy
                    · have := HOR.out y (List.mem_of_mem_take hy); omega
                    · rw [List.mem_singleton] at hy; omega
                  · intro d hd
                    rcases List.mem_append.1 hd with hd | hd
                    · have := HDB.out d hd; omega
                    · rw [List.mem_singleton] at hd; omega
                  · simp [intOf]; omega
        · obtain rfl : i = xs.length := by omega
          have hBF : Fr (fun k => k = gd) w wr := (below_fr HB.out _).trans HF.out
          have hBw : Below w.heap.size w wr := hBF.toBelow (fun b hb he => by have : b = gd := he; omega)
          have HV := Lib.hid (show refV xs = (decide (op.length = 1) && decide (dp.getD (xs.length - 1) 0 ≤ 40)) by
            have h := HR.out
            rw [List.drop_length] at h
            unfold refV
            rw [if_neg (by omega), h]
            rfl)
          have hlen1 : xs.length - 1 < dp.length := by omega
          have cd : wr.cell? ⟨gd, xs.length - 1, none⟩ = some (.int .i64 (dp.getD (xs.length - 1) 0)) := (blk_cell HD.out (xs.length - 1)).trans (by
            rw [nums_at, List.getElem?_append_left hlen1, List.getD_eq_getElem?_getD, List.getElem?_eq_getElem hlen1]; rfl)
          have hcast : (xs.length : Int) - 1 = ((xs.length - 1 : Nat) : Int) := by omega
          obtain ⟨dl, hdl2⟩ : ∃ dl, dp.getD (xs.length - 1) 0 = dl := ⟨_, rfl⟩
          rw [hdl2] at cd HV
          clear hdl2
          by_cases h1l : op.length = 1
          · have hb1 : ((op.length : Int) == 1) = true := beq_iff_eq.2 (by omega)
            go_wp2_with fail
            go_ret
            exact ⟨by rw [HV.out, decide_eq_true h1l]; rfl, hBw⟩
          · have hb1 : ((op.length : Int) == 1) = false := beq_eq_false_iff_ne.2 (by omega)
            go_wp2_with fail
            go_ret
            exact ⟨by rw [HV.out, decide_eq_false h1l]; rfl, hBw⟩
theorem observatoryref21_Valid.calls (A0 : Option Addr) (c0 : Nat) (l0 : List S57) (r : Bool) (w : World) (hr0 : Kd.C k57 w A0 l0.length l0) (hc0 : l0.length ≤ c0) (h : observatoryref21_Valid.f l0 = some r) :
    Calls Tryz.prog 25 #[.slice A0 l0.length c0] w fun e w' => e = .returned (.bool r) ∧ Below w.heap.size w w' := by
  obtain rfl : refV l0 = r := by injection h
  exact refvalid_calls A0 c0 l0 w hr0 hc0
end Go.Proofs.YtenecpmonodjaaaGreatDoor.PAll
