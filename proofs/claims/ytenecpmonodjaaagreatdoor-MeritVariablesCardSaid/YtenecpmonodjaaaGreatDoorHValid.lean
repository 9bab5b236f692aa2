/- expr.Valid and its closure, walked by hand. -/
import Derived.Test.YtenecpmonodjaaaGreatDoorPAllx18
import Derived.Laws.EntriesVeiled
namespace Go.Proofs.YtenecpmonodjaaaGreatDoor.PAll
open Go.RowKit Go.Proofs.YtenecpmonodjaaaGreatDoorW.PrintWords Go.Proofs.YtenecpmonodjaaaGreatDoorW.PrintLast Go.Proofs.YtenecpmonodjaaaGreatDoorW.PrintMore
open Go.Proofs.YtenecpmonodjaaaGreatDoor.Obs
set_option linter.unusedVariables false
set_option linter.unusedSimpArgs false

def formedB (x : S57) : Bool := (expr_formed.f x.f0 x.f1 x.f2 x.f3).getD false
theorem formed_some (x : S57) : expr_formed.f x.f0 x.f1 x.f2 x.f3 = some (formedB x) := by
  have h : ∃ r, expr_formed.f x.f0 x.f1 x.f2 x.f3 = some r := by
    unfold expr_formed.f expr_operands.f expr_identifier.f
    simp only [Option.bind_some]
    (repeat' split) <;> exact ⟨_, rfl⟩
  obtain ⟨r, h⟩ := h
  unfold formedB
  rw [h]; rfl

def kidStep (g : Int → Int → Bool × Int) (st : Bool × Int) (k : Int) : Bool × Int := if st.1 then g k st.2 else st
/-- The walk of Valid from the right: what it says, and the index that the next node has to have. -/
def walkV (xs : List S57) : Nat → Int → Int → Int → Bool × Int
  | 0, _, _, next => (false, next)
  | f + 1, i, d, next => if i = next ∧ 0 ≤ i ∧ d ≤ 40 ∧ formedB (rd_T57 xs i) = true then
      (rd_T57 xs i).f3.reverse.foldl (kidStep fun k n => walkV xs f k (d + 1) n) (true, next - 1) else (false, next)
theorem kids_le (g : Int → Int → Bool × Int) (hg : ∀ k n, -1 ≤ n → (g k n).2 ≤ n ∧ -1 ≤ (g k n).2) : ∀ (l : List Int) (st : Bool × Int), -1 ≤ st.2 → (l.foldl (kidStep g) st).2 ≤ st.2 ∧ -1 ≤ (l.foldl (kidStep g) st).2
  | [], st, h => ⟨Int.le_refl _, h⟩
  | k :: r, st, h => by
    have h1 : (kidStep g st k).2 ≤ st.2 ∧ -1 ≤ (kidStep g st k).2 := by
      unfold kidStep
      split
      · exact hg k st.2 h
      · exact ⟨Int.le_refl _, h⟩
    have h2 := kids_le g hg r (kidStep g st k) h1.2
    exact ⟨Int.le_trans h2.1 h1.1, h2.2⟩
theorem walkV_le (xs : List S57) : ∀ (f : Nat) (i d n : Int), -1 ≤ n → (walkV xs f i d n).2 ≤ n ∧ -1 ≤ (walkV xs f i d n).2
  | 0, _, _, n, h => ⟨Int.le_refl _, h⟩
  | f + 1, i, d, n, h => by
    unfold walkV
    split
    · rename_i hc
      have := kids_le (fun k n => walkV xs f k (d + 1) n) (fun k n hn => walkV_le xs f k (d + 1) n hn) (rd_T57 xs i).f3.reverse (true, n - 1) (by simp only; omega)
      exact ⟨by have := this.1; simp only at this ⊢; omega, this.2⟩
    · exact ⟨Int.le_refl _, h⟩
theorem kids_false (g : Int → Int → Bool × Int) (n : Int) : ∀ l : List Int, l.foldl (kidStep g) (false, n) = (false, n)
  | [] => rfl
  | k :: r => by rw [List.foldl_cons]; exact kids_false g n r

theorem formed_len (x : S57) (h : formedB x = true) : x.f3.length ≤ 3 := by
  have h0 : (x.f3.length : Int) = opsZ x.f0 := by
    have h1 := formed_some x
    rw [h] at h1
    unfold expr_formed.f expr_operands.f at h1
    simp only [Option.bind_some] at h1
    split at h1
    · rename_i hc; exact hc.symm
    · simp at h1
  have h2 : opsZ x.f0 ≤ 3 := by
    unfold opsZ
    (repeat' split) <;> omega
  omega
theorem Fr.cell {S : Nat → Prop} {w w1 : World} (h : Fr S w w1) {a : Addr} {v : Value} (hc : w.cell? a = some v) (hs : ¬ S a.block) : w1.cell? a = some v := by
  have := h.block a.block (World.block_lt_of_cell? w a hc) hs
  simpa [World.cell?, this] using hc
theorem rd_nat (l : List Int) (q : Nat) : rd l (q : Int) = l.getD q 0 := rfl
theorem kids_step (g : Int → Int → Bool × Int) (l : List Int) (q : Nat) (hq : q < l.length) (n : Int) :
    (l.take (q + 1)).reverse.foldl (kidStep g) (true, n) = (l.take q).reverse.foldl (kidStep g) (g (l.getD q 0) n) := by
  rw [List.take_succ_eq_append_getElem hq, List.reverse_append]
  simp only [List.reverse_cons, List.reverse_nil, List.nil_append, List.singleton_append, List.foldl_cons]
  rw [show kidStep g (true, n) l[q] = g l[q] n from rfl, List.getD_eq_getElem?_getD, List.getElem?_eq_getElem hq]
  rfl

def V1P (gn : Nat) (r : Bool × Int) (w : World) (e : Ending) (w' : World) : Prop :=
  e = .returned (.bool r.1) ∧ w'.heap[gn]? = some (.cells #[.int .i64 r.2] 3 (0, 0)) ∧ Fr (fun k => k = gn) w w'

set_option maxHeartbeats 4000000 in
set_option maxRecDepth 100000 in
theorem valid1_calls (xs : List S57) (A : Option Addr) (cap : Nat) (w0 : World) (gn ge gw : Nat) (hgn : w0.heap.size ≤ gn) (hge : w0.heap.size ≤ ge) (hgw : w0.heap.size ≤ gw) (hne1 : ge ≠ gn) (hne2 : gw ≠ gn)
    (hC : Kd.C k57 w0 A xs.length xs) (hcap : xs.length ≤ cap) (hxs : xs.length ≤ 300) : ∀ (f : Nat) (i d next : Int) (w : World), 41 - d < f → 1 ≤ d → d ≤ 41 → next < xs.length → -1 ≤ next →
      Below w0.heap.size w0 w → w.heap[gn]? = some (.cells #[.int .i64 next] 3 (0, 0)) → w.heap[ge]? = some (.cells #[.slice A xs.length cap] 23 (0, 0)) →
      w.heap[gw]? = some (.cells #[.func (.func 40) #[] #[.pointer (some ⟨gn, 0, none⟩), .pointer (some ⟨ge, 0, none⟩), .pointer (some ⟨gw, 0, none⟩)]] 74 (0, 0)) →
      Calls Tryz.prog 40 #[.int .i64 i, .int .i64 d, .pointer (some ⟨gn, 0, none⟩), .pointer (some ⟨ge, 0, none⟩), .pointer (some ⟨gw, 0, none⟩)] w (V1P gn (walkV xs f i d next) w)
  | 0, i, d, next, w, h1, h2, h3, _, _, _, _, _, _ => by omega
  | f + 1, i, d, next, w, hf, hd1, hd2, hnx, hnx0, hB, hN, hE, hW => by
    have cn := (blk_cell hN 0).trans rfl
    have ce := (blk_cell hE 0).trans rfl
    have cw := (blk_cell hW 0).trans rfl
    go_enter Tryz.func40, Tryz.ntmps40
    by_cases hi : i = next
    · subst hi
      by_cases hi0 : 0 ≤ i
      · by_cases hd : d ≤ 40
        · obtain ⟨ad, A3, c3, rfl, z0, z1, z2, z3, hl3, hz3⟩ := at_T57 hC i hi0 hnx
          obtain ⟨m, rfl⟩ : ∃ m : Nat, i = m := ⟨i.toNat, by omega⟩
          rw [Int.toNat_natCast] at z0 z1 z2 z3
          have hadlt : (ad.add (m * 4)).block < w0.heap.size := World.block_lt_of_cell? _ _ z0
          have k0 := (hB.cell (World.block_lt_of_cell? _ _ z0)).trans z0
          have k1 := (hB.cell (World.block_lt_of_cell? _ _ z1)).trans z1
          have k2 := (hB.cell (World.block_lt_of_cell? _ _ z2)).trans z2
          have k3 := (hB.cell (World.block_lt_of_cell? _ _ z3)).trans z3
          have hk3 := Kd.C_below hz3 hB
          clear z0 z1 z2 z3
          cases hfm : formedB (rd_T57 xs m) with
          | false =>
            have hv : walkV xs (f + 1) m d m = (false, (m : Int)) := by unfold walkV; rw [if_neg (fun h => by rw [hfm] at h; exact absurd h.2.2.2 (by decide))]
            have HV := Lib.hid hv
            have hb0 : decide ((m : Int) < 0) = false := decide_eq_false (by omega)
            have hb1 : decide ((40 : Int) < d) = false := decide_eq_false (by omega)
            clear hv
            go_wp2_with fail
            refine (expr_formed.calls _ _ _ A3 c3 _ false w hk3 hl3 (by rw [formed_some, hfm])).mono ?_
            rintro e w1 ⟨rfl, hb1⟩
            go_wp2
            go_ret
            exact ⟨by rw [HV.out]; rfl, by rw [HV.out]; exact blk_below hN hb1, below_fr hb1 _⟩
          | true =>
            have hv : walkV xs (f + 1) m d m = (rd_T57 xs m).f3.reverse.foldl (kidStep fun k n => walkV xs f k (d + 1) n) (true, (m : Int) - 1) := by
              show (if (m : Int) = m ∧ (0 : Int) ≤ m ∧ d ≤ 40 ∧ formedB (rd_T57 xs m) = true then _ else _) = _
              rw [if_pos ⟨rfl, hi0, hd, hfm⟩]
            have HV := Lib.hid hv
            have hb0 : decide ((m : Int) < 0) = false := decide_eq_false (by omega)
            have hb1 : decide ((40 : Int) < d) = false := decide_eq_false (by omega)
            clear hv
            go_wp2_with fail
            refine (expr_formed.calls _ _ _ A3 c3 _ true w hk3 hl3 (by rw [formed_some, hfm])).mono ?_
            rintro e w1 ⟨rfl, hbl⟩
            have hadn : (ad.add (m * 4)).block ≠ gn := by omega
            have k3' := (hbl.cell (World.block_lt_of_cell? _ _ k3)).trans k3
            have hN' := blk_below hN hbl
            have hE' := blk_below hE hbl
            have hW' := blk_below hW hbl
            have hk3' := Kd.C_below hk3 hbl
            have hB' := below_then hB hB.size hbl
            clear k0 k1 k2 cn ce cw
            have cn := (blk_cell hN' 0).trans rfl
            have ce := (blk_cell hE' 0).trans rfl
            have cw := (blk_cell hW' 0).trans rfl
            have fn := blk_frozen hN' 0
            generalize rd_T57 xs m = nd at *
            have hlen := formed_len nd hfm
            clear hfm
            go_wp2_with fail
            have hF2 : Fr (fun k => k = gn) w (w1.setCell ⟨gn, 0, none⟩ (.int .i64 ((m : Int) - 1))) := (below_fr hbl (fun k => k = gn)).setCell _ _ (fun _ => rfl)
            have hN2 : (w1.setCell ⟨gn, 0, none⟩ (.int .i64 ((m : Int) - 1))).heap[gn]? = some (.cells #[.int .i64 ((m : Int) - 1)] 3 (0, 0)) := one_setCell hN'
            generalize w1.setCell ⟨gn, 0, none⟩ (.int .i64 ((m : Int) - 1)) = w2 at hF2 hN2 ⊢
            have hNW : gn < w.heap.size := blk_lt hN
            clear hbl hN' hE' hW' hk3' hB' cn ce cw fn k3'
            have HN2 := Aside0.mk hN2
            have HF2 := Aside0.mk hF2
            clear hN2 hF2
            go_loopw [8] (fun v8 wr => ∃ (q : Nat) (n : Int), q ≤ nd.f3.length ∧ v8 = .int .i64 ((q : Int) - 1) ∧ -1 ≤ n ∧ n < xs.length ∧
              Aside0 (walkV xs (f + 1) m d m = (nd.f3.take q).reverse.foldl (kidStep fun k n => walkV xs f k (d + 1) n) (true, n)) ∧
              Aside0 (wr.heap[gn]? = some (.cells #[.int .i64 n] 3 (0, 0))) ∧ Aside0 (Fr (fun k => k = gn) w wr)) (fun v8 _ => (intOf v8 + 1).toNat)
            case atStart => exact ⟨nd.f3.length, (m : Int) - 1, Nat.le_refl _, rfl, by omega, by omega, ⟨by rw [HV.out, List.take_length]⟩, HN2, HF2⟩
            case round =>
              obtain ⟨q, n, hq, rfl, hn0, hn1, HR, HN, HF⟩ := hrel
              cases q with
              | zero =>
                go_wp2
                go_ret
                exact ⟨by rw [HR.out]; rfl, by rw [HR.out]; exact HN.out, HF.out⟩
              | succ q =>
                have hge0 : decide ((0 : Int) ≤ ((q + 1 : Nat) : Int) - 1) = true := decide_eq_true (by omega)
                go_wp2_with fail
                obtain ⟨ad3, rfl, zk⟩ := Kd.at_int hz3 (q : Int) (by omega) (by omega)
                rw [rd_nat, Int.toNat_natCast] at zk
                have hk3lt := World.block_lt_of_cell? _ _ zk
                have kk := HF.out.cell ((hB.cell hk3lt).trans zk) (by show ¬ _ = gn; omega)
                have kw := HF.out.cell ((blk_cell hW 0).trans rfl) (show ¬ gw = gn from hne2)
                have ke := HF.out.cell ((blk_cell hE 0).trans rfl) (show ¬ ge = gn from hne1)
                have k3r := HF.out.cell k3 (show ¬ (ad.add (m * 4)).block = gn from hadn)
                have hq1 : ((q + 1 : Nat) : Int) - 1 = (q : Int) := by omega
                rw [hq1]
                have hq2 : (q : Int) < (nd.f3.length : Int) := by omega
                generalize hkid : nd.f3.getD q 0 = kid at kk
                refine start_ (n := 13) (S := (fun w' => w'.cell? ⟨gw, 0, none⟩ = some (.func (.func 40) #[] #[.pointer (some ⟨gn, 0, none⟩), .pointer (some ⟨ge, 0, none⟩), .pointer (some ⟨gw, 0, none⟩)]) ∧ w'.cell? ⟨ge, 0, none⟩ = some (.slice (some ad) xs.length cap) ∧ w'.cell? ⟨(ad.add (m * 4)).block, (ad.add (m * 4)).off + 3, none⟩ = some (.slice (some ad3) nd.f3.length c3) ∧ w'.cell? (ad3.add q) = some (.int .i64 kid))) (ds := []) #[false, false, false, false, false, false, false, false, false, false, false, false, false] (by kernel_rfl) rfl rfl ⟨kw, ke, k3r, kk⟩ (fun hHeld => ?_)
                refine take_ (i := 0) (N := some 41) (v := ?_) (a' := ?_) #[true, false, false, false, false, false, false, false, false, false, false, false, false] rfl rfl (by kernel_rfl) (fun _ _ _ h => h) (Or.inl ⟨by rfl, ?_⟩) hHeld ?_ ?_
                rotate_left
                · rintro w' ⟨s0, s1, s2, s3⟩
                  go_simp
                  with_reducible rfl
                rotate_left
                · simp only [Act.put, List.setIfInBounds_toArray, List.set_cons_zero, List.set_cons_succ, i64_w, i32_w]
                  rfl
                refine take_ (i := 1) (N := some 42) (v := ?_) (a' := ?_) #[true, true, false, false, false, false, false, false, false, false, false, false, false] rfl rfl (by kernel_rfl) (fun _ _ _ h => h) (Or.inl ⟨by rfl, ?_⟩) hHeld ?_ ?_
                rotate_left
                · rintro w' ⟨s0, s1, s2, s3⟩
                  go_simp
                  with_reducible rfl
                rotate_left
                · simp only [Act.put, List.setIfInBounds_toArray, List.set_cons_zero, List.set_cons_succ, i64_w, i32_w]
                  rfl
                refine pure_ (i := 2) (N := some 43) (v := ?_) (a' := ?_) #[true, true, true, false, false, false, false, false, false, false, false, false, false] rfl rfl (by kernel_rfl) (fun _ _ _ h => h) (Or.inl ⟨by rfl, ?_⟩) ?_ ?_
                rotate_left
                · intro w'
                  go_simp
                  with_reducible rfl
                rotate_left
                · simp only [Act.put, List.setIfInBounds_toArray, List.set_cons_zero, List.set_cons_succ, i64_w, i32_w]
                  rfl
                refine pure_ (i := 3) (N := some 44) (v := ?_) (a' := ?_) #[true, true, true, true, false, false, false, false, false, false, false, false, false] rfl rfl (by kernel_rfl) (fun _ _ _ h => h) (Or.inl ⟨by rfl, ?_⟩) ?_ ?_
                rotate_left
                · intro w'
                  go_simp
                  with_reducible rfl
                rotate_left
                · simp only [Act.put, List.setIfInBounds_toArray, List.set_cons_zero, List.set_cons_succ, i64_w, i32_w]
                  rfl
                refine pure_ (i := 4) (N := some 45) (v := ?_) (a' := ?_) #[true, true, true, true, true, false, false, false, false, false, false, false, false] rfl rfl (by kernel_rfl) (fun _ _ _ h => h) (Or.inl ⟨by rfl, ?_⟩) ?_ ?_
                rotate_left
                · intro w'
                  go_simp
                  with_reducible rfl
                rotate_left
                · simp only [Act.put, List.setIfInBounds_toArray, List.set_cons_zero, List.set_cons_succ, i64_w, i32_w]
                  rfl
                refine take_ (i := 5) (N := some 46) (v := ?_) (a' := ?_) #[true, true, true, true, true, true, false, false, false, false, false, false, false] rfl rfl (by kernel_rfl) (fun _ _ _ h => h) (Or.inl ⟨by rfl, ?_⟩) hHeld ?_ ?_
                rotate_left
                · rintro w' ⟨s0, s1, s2, s3⟩
                  go_simp
                  with_reducible rfl
                rotate_left
                · simp only [Act.put, List.setIfInBounds_toArray, List.set_cons_zero, List.set_cons_succ, i64_w, i32_w]
                  rfl
                refine pure_ (i := 6) (N := some 47) (v := ?_) (a' := ?_) #[true, true, true, true, true, true, true, false, false, false, false, false, false] rfl rfl (by kernel_rfl) (fun _ _ _ h => h) (Or.inl ⟨by rfl, ?_⟩) ?_ ?_
                rotate_left
                · intro w'
                  go_simp
                  with_reducible rfl
                rotate_left
                · simp only [Act.put, List.setIfInBounds_toArray, List.set_cons_zero, List.set_cons_succ, i64_w, i32_w]
                  rfl
                refine pure_ (i := 7) (N := some 48) (v := ?_) (a' := ?_) #[true, true, true, true, true, true, true, true, false, false, false, false, false] rfl rfl (by kernel_rfl) (fun _ _ _ h => h) (Or.inl ⟨by rfl, ?_⟩) ?_ ?_
                rotate_left
                · intro w'
                  go_simp
                  with_reducible rfl
                rotate_left
                · simp only [Act.put, List.setIfInBounds_toArray, List.set_cons_zero, List.set_cons_succ, i64_w, i32_w]
                  rfl
                refine take_ (i := 8) (N := some 49) (v := ?_) (a' := ?_) #[true, true, true, true, true, true, true, true, true, false, false, false, false] rfl rfl (by kernel_rfl) (fun _ _ _ h => h) (Or.inl ⟨by rfl, ?_⟩) hHeld ?_ ?_
                rotate_left
                · rintro w' ⟨s0, s1, s2, s3⟩
                  go_simp
                  with_reducible rfl
                rotate_left
                · simp only [Act.put, List.setIfInBounds_toArray, List.set_cons_zero, List.set_cons_succ, i64_w, i32_w]
                  rfl
                refine pure_ (i := 9) (N := some 50) (v := ?_) (a' := ?_) #[true, true, true, true, true, true, true, true, true, true, false, false, false] rfl rfl (by kernel_rfl) (fun _ _ _ h => h) (Or.inl ⟨by rfl, ?_⟩) ?_ ?_
                rotate_left
                · intro w'
                  go_simp
                  with_reducible rfl
                rotate_left
                · simp only [Act.put, List.setIfInBounds_toArray, List.set_cons_zero, List.set_cons_succ, i64_w, i32_w]
                  rfl
                refine pure_ (i := 10) (N := some 51) (v := ?_) (a' := ?_) #[true, true, true, true, true, true, true, true, true, true, true, false, false] rfl rfl (by kernel_rfl) (fun _ _ _ h => h) (Or.inl ⟨by rfl, ?_⟩) ?_ ?_
                rotate_left
                · intro w'
                  go_simp
                  with_reducible rfl
                rotate_left
                · simp only [Act.put, List.setIfInBounds_toArray, List.set_cons_zero, List.set_cons_succ, i64_w, i32_w]
                  rfl
                refine one_ (i := 11) (N := some 52) #[true, true, true, true, true, true, true, true, true, true, true, true, false] rfl rfl (by kernel_rfl) (by decide) (fun K hK => ?_)
                refine call_ 40 #[.int .i64 kid, .int .i64 (d + 1), .pointer (some ⟨gn, 0, none⟩), .pointer (some ⟨ge, 0, none⟩), .pointer (some ⟨gw, 0, none⟩)] rfl rfl ?_ ?_
                · unfold execOp
                  simp [resolve, Deferred.ofValue, invoke, Act.eval, enters_ Tryz.func40 (by kernel_rfl) rfl, show wrap64 (d + 1) = d + 1 by unfold wrap64; omega]
                have hBr : Below w0.heap.size w0 wr := ((Fr.below hB (S := fun _ => False)).step HF.out (fun b hb he => by have : b = gn := he; omega)).toBelow (fun _ _ h => h)
                refine (valid1_calls xs (some ad) cap w0 gn ge gw hgn hge hgw hne1 hne2 hC hcap hxs f kid (d + 1) n wr.drew (by omega) (by omega) (by omega) hn1 hn0 (below_drew1 hBr) (blk_drew HN.out) (blk_drew (HF.out.blk hE hne1)) (blk_drew (HF.out.blk hW hne2))).mono ?_
                have hle := walkV_le xs f kid (d + 1) n hn0
                have hR2 := HR.out
                rw [kids_step _ _ _ (by omega), hkid] at hR2
                have HR2 := Aside0.mk hR2
                generalize walkV xs f kid (d + 1) n = rr at HR2 hle ⊢
                obtain ⟨rb, n'⟩ := rr
                simp only at hle ⊢
                rintro e w5 ⟨rfl, hn5, hf5⟩
                simp only at hn5 ⊢
                have hF5 : Fr (fun k => k = gn) w w5 := (HF.out.drew).trans hf5
                have kw5 := hf5.cell (a := ⟨gw, 0, none⟩) kw (show ¬ gw = gn from hne2)
                have ke5 := hf5.cell (a := ⟨ge, 0, none⟩) ke (show ¬ ge = gn from hne1)
                have k35 := hf5.cell (a := ⟨(ad.add (m * 4)).block, (ad.add (m * 4)).off + 3, none⟩) k3r (show ¬ (ad.add (m * 4)).block = gn from hadn)
                have kk5 := hf5.cell (a := ad3.add q) kk (by show ¬ _ = gn; omega)
                have HN5 := Aside0.mk hn5
                have HF5 := Aside0.mk hF5
                clear HR HN HF hf5 hn5 hF5 kw ke k3r kk hR2
                refine ⟨_, rfl, ?_⟩
                refine hK.out _ _ ⟨kw5, ke5, k35, kk5⟩ (fun hHeld => ?_)
                clear hK K
                refine norm_ (a' := ?_) ?_ ?_
                rotate_left
                · show Act.put _ (some 52) _ = _
                  simp only [Act.put, List.setIfInBounds_toArray, List.set_cons_zero, List.set_cons_succ, i64_w, i32_w]
                  rfl
                refine pure_ (i := 12) (N := some 53) (v := ?_) (a' := ?_) #[true, true, true, true, true, true, true, true, true, true, true, true, true] rfl rfl (by kernel_rfl) (fun _ _ _ h => h) (Or.inl ⟨by rfl, ?_⟩) ?_ ?_
                rotate_left
                · intro w'
                  go_simp
                  with_reducible rfl
                rotate_left
                · simp only [Act.put, List.setIfInBounds_toArray, List.set_cons_zero, List.set_cons_succ, i64_w, i32_w]
                  rfl
                refine done_ (by kernel_rfl) ?_
                cases rb with
                | false =>
                  go_wp2
                  go_ret
                  rw [kids_false] at HR2
                  exact ⟨by rw [HR2.out]; rfl, by rw [HR2.out]; exact HN5.out, HF5.out⟩
                | true =>
                  go_wp2_with fail
                  go_roundw
                  case rel => exact ⟨q, n', by omega, by first | rfl | (congr 1; omega), by omega, by omega, HR2, HN5, HF5⟩
                  case measure => simp [intOf]
        · have hv : walkV xs (f + 1) i d i = (false, i) := by unfold walkV; rw [if_neg (fun h => hd h.2.2.1)]
          have HV := Lib.hid hv
          clear hv
          have hb0 : decide (i < 0) = false := decide_eq_false (by omega)
          have hb1 : decide ((40 : Int) < d) = true := decide_eq_true (by omega)
          go_wp2
          go_ret
          exact ⟨by rw [HV.out]; rfl, by rw [HV.out]; exact hN, Fr.refl _ _⟩
      · have hv : walkV xs (f + 1) i d i = (false, i) := by unfold walkV; rw [if_neg (fun h => hi0 h.2.1)]
        have HV := Lib.hid hv
        clear hv
        have hb0 : decide (i < 0) = true := decide_eq_true (by omega)
        go_wp2
        go_ret
        exact ⟨by rw [HV.out]; rfl, by rw [HV.out]; exact hN, Fr.refl _ _⟩
    · have b1 : (i != next) = true := bne_iff_ne.2 hi
      have hv : walkV xs (f + 1) i d next = (false, next) := by unfold walkV; rw [if_neg (fun h => hi h.1)]
      have HV := Lib.hid hv
      clear hv
      go_wp2
      go_ret
      exact ⟨by rw [HV.out]; rfl, by rw [HV.out]; exact hN, Fr.refl _ _⟩

/-- Is an expression well-formed, as the program reckons it? -/
def validX (xs : List S57) : Bool := !decide (xs.length < 1) && !decide (300 < xs.length) && (let r := walkV xs 41 ((xs.length : Int) - 1) 1 ((xs.length : Int) - 1); r.1 && r.2 == -1)
def expr_Valid.f (xs : List S57) : Option Bool := some (validX xs)
def VP (r : Bool) (w : World) (e : Ending) (w' : World) : Prop := e = .returned (.bool r) ∧ Below w.heap.size w w'

set_option maxHeartbeats 4000000 in
set_option maxRecDepth 100000 in
theorem valid_calls (A : Option Addr) (cap : Nat) (xs : List S57) (w : World) (hC : Kd.C k57 w A xs.length xs) (hc : xs.length ≤ cap) :
    Calls Tryz.prog 14 #[.slice A xs.length cap] w (VP (validX xs) w) := by
  have hmf : ∀ (fn : Fn) (first cap : Array Value) (w : World), (Instr.makeFunc fn first cap).run Tryz.prog w = .ok (.func fn first cap) w := fun _ _ _ _ => rfl
  go_enter Tryz.func14, Tryz.ntmps14
  by_cases h1 : xs.length < 1
  · have hv : validX xs = false := by unfold validX; rw [decide_eq_true h1]; rfl
    have HV := Lib.hid hv
    clear hv
    have hb : decide ((xs.length : Int) < 1) = true := decide_eq_true (by omega)
    go_wp2
    go_ret
    exact ⟨by rw [HV.out]; rfl, by first | exact below_alloc (Below.refl _ _) _ | skip⟩
  · by_cases h2 : 300 < xs.length
    · have hv : validX xs = false := by unfold validX; rw [decide_eq_true h2]; simp
      have HV := Lib.hid hv
      clear hv
      have hb : decide ((xs.length : Int) < 1) = false := decide_eq_false (by omega)
      have hb' : decide ((300 : Int) < (xs.length : Int)) = true := decide_eq_true (by omega)
      go_wp2
      go_ret
      exact ⟨by rw [HV.out]; rfl, by first | exact below_alloc (Below.refl _ _) _ | skip⟩
    · have hb : decide ((xs.length : Int) < 1) = false := decide_eq_false (by omega)
      have hb' : decide ((300 : Int) < (xs.length : Int)) = false := decide_eq_false (by omega)
      go_wp2_with fail
      generalize hW : (((w.alloc (Obj.cells #[Value.slice A xs.length cap] 23)).alloc (Obj.cells #[Value.int IntKind.i64 ((xs.length : Int) - 1)] 3)).alloc (Obj.cells #[Value.func (Fn.func 40) #[] #[Value.pointer (some ⟨w.heap.size + 1, 0, none⟩), Value.pointer (some ⟨w.heap.size, 0, none⟩), Value.pointer (some ⟨w.heap.size + 1 + 1, 0, none⟩)]] 74)) = wv
      have s1 : (w.alloc (Obj.cells #[Value.slice A xs.length cap] 23)).heap.size = w.heap.size + 1 := alloc_size _ _
      have s2 : ((w.alloc (Obj.cells #[Value.slice A xs.length cap] 23)).alloc (Obj.cells #[Value.int IntKind.i64 ((xs.length : Int) - 1)] 3)).heap.size = w.heap.size + 1 + 1 := by rw [alloc_size, s1]
      have hE : wv.heap[w.heap.size]? = some (.cells #[.slice A xs.length cap] 23 (0, 0)) := by rw [← hW]; exact blk_alloc (blk_alloc (blk_new w _) _) _
      have hN : wv.heap[w.heap.size + 1]? = some (.cells #[.int .i64 ((xs.length : Int) - 1)] 3 (0, 0)) := by
        rw [← hW]; have h := blk_new (w.alloc (Obj.cells #[Value.slice A xs.length cap] 23)) (Obj.cells #[Value.int IntKind.i64 ((xs.length : Int) - 1)] 3); rw [s1] at h; exact blk_alloc h _
      have hF : wv.heap[w.heap.size + 1 + 1]? = some (.cells #[.func (.func 40) #[] #[.pointer (some ⟨w.heap.size + 1, 0, none⟩), .pointer (some ⟨w.heap.size, 0, none⟩), .pointer (some ⟨w.heap.size + 1 + 1, 0, none⟩)]] 74 (0, 0)) := by
        rw [← hW]
        have h := blk_new ((w.alloc (Obj.cells #[Value.slice A xs.length cap] 23)).alloc (Obj.cells #[Value.int IntKind.i64 ((xs.length : Int) - 1)] 3)) (Obj.cells #[Value.func (Fn.func 40) #[] #[Value.pointer (some ⟨w.heap.size + 1, 0, none⟩), Value.pointer (some ⟨w.heap.size, 0, none⟩), Value.pointer (some ⟨w.heap.size + 1 + 1, 0, none⟩)]] 74)
        rw [s2] at h; exact h
      have hBv : Below w.heap.size w wv := by rw [← hW]; exact below_alloc (below_alloc (below_alloc (Below.refl _ _) _) _) _
      clear hW s1 s2
      refine (valid1_calls xs A cap w (w.heap.size + 1) w.heap.size (w.heap.size + 1 + 1) (by omega) (by omega) (by omega) (by omega) (by omega) hC hc (by omega) 41 ((xs.length : Int) - 1) 1 ((xs.length : Int) - 1) wv (by omega) (by omega) (by omega) (by omega) (by omega) hBv hN hE hF).mono ?_
      have HV := Lib.hid (show validX xs = ((walkV xs 41 ((xs.length : Int) - 1) 1 ((xs.length : Int) - 1)).1 && (walkV xs 41 ((xs.length : Int) - 1) 1 ((xs.length : Int) - 1)).2 == -1) by unfold validX; rw [decide_eq_false h1, decide_eq_false h2]; rfl)
      generalize walkV xs 41 ((xs.length : Int) - 1) 1 ((xs.length : Int) - 1) = rr at HV ⊢
      obtain ⟨rb, rn⟩ := rr
      simp only at HV ⊢
      rintro e w5 ⟨rfl, hn5, hf5⟩
      simp only at hn5 ⊢
      have c5 := (blk_cell hn5 0).trans rfl
      have hB5 : Below w.heap.size w w5 := ((Fr.below hBv (S := fun _ => False)).step hf5 (fun b hb he => by have : b = w.heap.size + 1 := he; omega)).toBelow (fun _ _ h => h)
      clear hE hN hF hBv hn5 hf5
      cases rb with
      | false =>
        go_wp2
        go_ret
        exact ⟨by rw [HV.out]; rfl, hB5⟩
      | true =>
        go_wp2
        go_ret
        exact ⟨by rw [HV.out]; rfl, hB5⟩
theorem expr_Valid.calls (A0 : Option Addr) (c0 : Nat) (l0 : List S57) (r : Bool) (w : World) (hr0 : Kd.C k57 w A0 l0.length l0) (hc0 : l0.length ≤ c0) (h : expr_Valid.f l0 = some r) :
    Calls Tryz.prog 14 #[.slice A0 l0.length c0] w fun e w' => e = .returned (.bool r) ∧ Below w.heap.size w w' := by
  obtain rfl : validX l0 = r := by simpa [expr_Valid.f] using h
  exact valid_calls A0 c0 l0 w hr0 hc0

end Go.Proofs.YtenecpmonodjaaaGreatDoor.PAll

/- Well-formed expressions are trees, written down with the operands first: in Lean alone. -/
namespace Go.Proofs.YtenecpmonodjaaaGreatDoor.PAll
open Go.RowKit Go.Proofs.YtenecpmonodjaaaGreatDoorW.PrintWords Go.Proofs.YtenecpmonodjaaaGreatDoorW.PrintLast Go.Proofs.YtenecpmonodjaaaGreatDoorW.PrintMore
open Go.Proofs.YtenecpmonodjaaaGreatDoor.Obs
set_option linter.unusedVariables false
set_option linter.unusedSimpArgs false

inductive T where
  | num (n : Int)
  | name (s : ByteArray)
  | neg (a : T)
  | bin (op : Int) (a b : T)
  | ite (a b c : T)
namespace T
def size : T → Nat
  | num _ => 1
  | name _ => 1
  | neg a => a.size + 1
  | bin _ a b => a.size + b.size + 1
  | ite a b c => a.size + b.size + c.size + 1
def depth : T → Int
  | num _ => 1
  | name _ => 1
  | neg a => a.depth + 1
  | bin _ a b => max a.depth b.depth + 1
  | ite a b c => max a.depth (max b.depth c.depth) + 1
def flat : T → Nat → List S57
  | num n, _ => [⟨1, n, ⟨#[]⟩, []⟩]
  | name s, _ => [⟨2, 0, s, []⟩]
  | neg a, m => a.flat m ++ [⟨12, 0, ⟨#[]⟩, [((m + a.size : Nat) : Int) - 1]⟩]
  | bin op a b, m => a.flat m ++ (b.flat (m + a.size) ++ [⟨op, 0, ⟨#[]⟩, [((m + a.size : Nat) : Int) - 1, ((m + a.size + b.size : Nat) : Int) - 1]⟩])
  | ite a b c, m => a.flat m ++ (b.flat (m + a.size) ++ (c.flat (m + a.size + b.size) ++ [⟨9, 0, ⟨#[]⟩, [((m + a.size : Nat) : Int) - 1, ((m + a.size + b.size : Nat) : Int) - 1, ((m + a.size + b.size + c.size : Nat) : Int) - 1]⟩]))
def ok : T → Prop
  | num n => 0 ≤ n ∧ n ≤ 1000000
  | name s => identL s.data.toList = true
  | neg a => a.ok
  | bin op a b => opsZ op = 2 ∧ a.ok ∧ b.ok
  | ite a b c => a.ok ∧ b.ok ∧ c.ok
theorem size_pos (t : T) : 1 ≤ t.size := by cases t <;> simp [size]
theorem depth_pos : ∀ t : T, 1 ≤ t.depth
  | num _ => by simp [depth]
  | name _ => by simp [depth]
  | neg a => by have := depth_pos a; simp only [depth]; omega
  | bin _ a b => by have := depth_pos a; simp only [depth]; omega
  | ite a b c => by have := depth_pos a; simp only [depth]; omega
theorem flat_len : ∀ (t : T) (m : Nat), (t.flat m).length = t.size
  | num _, _ => rfl
  | name _, _ => rfl
  | neg a, m => by simp [flat, size, flat_len a]
  | bin _ a b, m => by simp [flat, size, flat_len a, flat_len b]; omega
  | ite a b c, m => by simp [flat, size, flat_len a, flat_len b, flat_len c]; omega
end T

theorem ops_cases (op : Int) : (opsZ op = 0 ∧ (op = 1 ∨ op = 2)) ∨ (opsZ op = 1 ∧ op = 12) ∨ (opsZ op = 3 ∧ op = 9) ∨ (opsZ op = 2 ∧ (op = 3 ∨ op = 4 ∨ op = 5 ∨ op = 6 ∨ op = 7 ∨ op = 8 ∨ op = 10 ∨ op = 11)) ∨ opsZ op = -1 := by
  by_cases h1 : op = 1 ∨ op = 2
  · left; exact ⟨by unfold opsZ; rw [if_pos h1], h1⟩
  · by_cases h2 : op = 12
    · right; left; subst h2; exact ⟨rfl, rfl⟩
    · by_cases h3 : op = 9
      · right; right; left; subst h3; exact ⟨rfl, rfl⟩
      · right; right; right
        by_cases h4 : op = 3 ∨ op = 4 ∨ op = 5 ∨ op = 6 ∨ op = 7 ∨ op = 8 ∨ op = 10 ∨ op = 11
        · left
          refine ⟨?_, h4⟩
          rcases h4 with h | h | h | h | h | h | h | h <;> subst h <;> rfl
        · right
          have hi : nameM infixL op = [] := by
            unfold infixL
            simp only [nameM]
            rw [if_neg (by omega), if_neg (by omega), if_neg (by omega), if_neg (by omega), if_neg (by omega), if_neg (by omega)]
          have hf : nameM functionsL op = [] := by
            unfold functionsL
            simp only [nameM]
            rw [if_neg (by omega), if_neg (by omega), if_neg (by omega)]
          unfold opsZ
          rw [if_neg h1, if_neg h2, if_neg h3, hi, hf]
          rfl

/-- The fields of a node that is as it has to be. -/
theorem formed_iff (x : S57) : formedB x = true ↔ (opsZ x.f0 = x.f3.length ∧ ((x.f0 = 1 ∧ x.f2 = ⟨#[]⟩ ∧ 0 ≤ x.f1 ∧ x.f1 ≤ 1000000) ∨ (x.f0 = 2 ∧ x.f1 = 0 ∧ identL x.f2.data.toList = true) ∨ (x.f0 ≠ 1 ∧ x.f0 ≠ 2 ∧ x.f1 = 0 ∧ x.f2 = ⟨#[]⟩))) := by
  have hs := formed_some x
  have he : ∀ b : ByteArray, b.toList = ([] : List UInt8) ↔ b = ⟨#[]⟩ := fun b => by
    constructor
    · intro h
      obtain ⟨⟨l⟩⟩ := b
      rw [ByteArray.toList_eq] at h
      have : l = [] := h
      rw [this]
    · intro h; rw [h, ByteArray.toList_eq]
  unfold expr_formed.f expr_operands.f expr_identifier.f at hs
  simp only [Option.bind_some] at hs
  have hl : (x.f2.toList == ([] : List UInt8)) = decide (x.f2 = ⟨#[]⟩) := by
    rw [Bool.eq_iff_iff, beq_iff_eq, decide_eq_true_iff, he]
  rw [hl] at hs
  generalize formedB x = r at hs ⊢
  by_cases h0 : opsZ x.f0 = x.f3.length
  · rw [if_pos h0] at hs
    by_cases h1 : x.f0 = 1
    · rw [if_pos h1] at hs
      by_cases h2 : x.f2.toList = []
      · rw [if_pos h2] at hs
        have h2' := (he _).1 h2
        by_cases h3 : 0 ≤ x.f1
        · rw [if_pos h3] at hs
          injection hs with hs
          rw [← hs, decide_eq_true_iff]
          constructor
          · intro h; exact ⟨h0, .inl ⟨h1, h2', h3, h⟩⟩
          · rintro ⟨_, h | h | h⟩
            · exact h.2.2.2
            · omega
            · exact absurd h1 h.1
        · rw [if_neg h3] at hs
          injection hs with hs
          rw [← hs]
          constructor
          · intro h; cases h
          · rintro ⟨_, h | h | h⟩
            · exact absurd h.2.2.1 h3
            · omega
            · exact absurd h1 h.1
      · rw [if_neg h2] at hs
        injection hs with hs
        rw [← hs]
        constructor
        · intro h; cases h
        · rintro ⟨_, h | h | h⟩
          · exact absurd ((he _).2 h.2.1) h2
          · omega
          · exact absurd h1 h.1
    · rw [if_neg h1] at hs
      by_cases h2 : x.f0 = 2
      · rw [if_pos h2] at hs
        by_cases h3 : x.f1 = 0
        · rw [if_pos h3] at hs
          injection hs with hs
          rw [← hs]
          constructor
          · intro h; exact ⟨h0, .inr (.inl ⟨h2, h3, h⟩)⟩
          · rintro ⟨_, h | h | h⟩
            · exact absurd h.1 h1
            · exact h.2.2
            · exact absurd h2 h.2.1
        · rw [if_neg h3] at hs
          injection hs with hs
          rw [← hs]
          constructor
          · intro h; cases h
          · rintro ⟨_, h | h | h⟩
            · exact absurd h.1 h1
            · exact absurd h.2.1 h3
            · exact absurd h2 h.2.1
      · rw [if_neg h2] at hs
        by_cases h3 : x.f1 = 0
        · rw [if_pos h3] at hs
          injection hs with hs
          rw [← hs, decide_eq_true_iff]
          constructor
          · intro h; exact ⟨h0, .inr (.inr ⟨h1, h2, h3, h⟩)⟩
          · rintro ⟨_, h | h | h⟩
            · exact absurd h.1 h1
            · exact absurd h.1 h2
            · exact h.2.2.2
        · rw [if_neg h3] at hs
          injection hs with hs
          rw [← hs]
          constructor
          · intro h; cases h
          · rintro ⟨_, h | h | h⟩
            · exact absurd h.1 h1
            · exact absurd h.1 h2
            · exact absurd h.2.2.1 h3
  · rw [if_neg h0] at hs
    injection hs with hs
    rw [← hs]
    constructor
    · intro h; cases h
    · rintro ⟨h, _⟩; exact absurd h h0

theorem cut_add {α : Type} (xs : List α) (m a b : Nat) : (xs.drop m).take (a + b) = (xs.drop m).take a ++ (xs.drop (m + a)).take b := by
  rw [List.take_add, List.drop_drop]
theorem cut_one (xs : List S57) (m : Nat) (h : m < xs.length) : (xs.drop m).take 1 = [rd_T57 xs (m : Int)] := by
  rw [List.drop_eq_getElem_cons h]
  unfold rd_T57
  rw [Int.toNat_natCast, List.getD_eq_getElem?_getD, List.getElem?_eq_getElem h]
  rfl
theorem walk_succ (xs : List S57) (f : Nat) (i d n : Int) : walkV xs (f + 1) i d n = if i = n ∧ 0 ≤ i ∧ d ≤ 40 ∧ formedB (rd_T57 xs i) = true then
      (rd_T57 xs i).f3.reverse.foldl (kidStep fun k n => walkV xs f k (d + 1) n) (true, n - 1) else (false, n) := rfl

def TreeAt (xs : List S57) (d i : Int) (p : Nat) (n' : Int) : Prop :=
  ∃ (t : T) (m : Nat), t.ok ∧ t.depth + d ≤ 41 ∧ i = (p : Int) - 1 ∧ p = m + t.size ∧ n' = (m : Int) - 1 ∧ (xs.drop m).take t.size = t.flat m
theorem kid_one {g : Int → Int → Bool × Int} {k n n' : Int} {r : List Int} (h : (k :: r).foldl (kidStep g) (true, n) = (true, n')) : ∃ n1, g k n = (true, n1) ∧ r.foldl (kidStep g) (true, n1) = (true, n') := by
  rw [List.foldl_cons] at h
  have e : kidStep g (true, n) k = g k n := rfl
  rw [e] at h
  cases hg : g k n with
  | mk b n1 =>
    cases b with
    | true => rw [hg] at h; exact ⟨n1, rfl, h⟩
    | false => rw [hg, kids_false] at h; cases h

theorem tree_of_walk (xs : List S57) : ∀ (f : Nat) (d i : Int) (p : Nat) (n' : Int), p ≤ xs.length → walkV xs f i d ((p : Int) - 1) = (true, n') → TreeAt xs d i p n'
  | 0, d, i, p, n', hp, h => by cases h
  | f + 1, d, i, p, n', hp, h => by
    rw [walk_succ] at h
    split at h
    · rename_i hc
      obtain ⟨hi, h0, hd, hf⟩ := hc
      obtain ⟨q, rfl⟩ : ∃ q, p = q + 1 := ⟨p - 1, by omega⟩
      have hiq : i = (q : Int) := by omega
      have hone := cut_one xs q (by omega)
      rw [hiq] at hf h
      generalize rd_T57 xs (q : Int) = x at *
      obtain ⟨f0, f1, f2, f3⟩ := x
      obtain ⟨hops, hcs⟩ := (formed_iff _).1 hf
      simp only at hops hcs h
      have hq1 : (((q + 1 : Nat) : Int)) - 1 - 1 = (q : Int) - 1 := by omega
      rw [hq1] at h
      match f3, hops, h, hone with
      | [], hops, h, hone =>
        have hn : n' = (q : Int) - 1 := by injection h with _ h; exact h.symm
        have h12 : f0 = 1 ∨ f0 = 2 := by
          rcases ops_cases f0 with h | h | h | h | h <;> simp at hops <;> omega
        rcases hcs with hh | hh | hh
        · obtain ⟨rfl, rfl, h3, h4⟩ := hh
          exact ⟨.num f1, q, ⟨h3, h4⟩, by simp only [T.depth]; omega, by omega, rfl, hn, hone⟩
        · obtain ⟨rfl, rfl, h3⟩ := hh
          exact ⟨.name f2, q, h3, by simp only [T.depth]; omega, by omega, rfl, hn, hone⟩
        · omega
      | [a], hops, h, hone =>
        have h12 : f0 = 12 := by
          rcases ops_cases f0 with h | h | h | h | h <;> simp at hops <;> omega
        subst h12
        rcases hcs with hh | hh | ⟨_, _, rfl, rfl⟩
        · omega
        · omega
        obtain ⟨n1, hg, h⟩ := kid_one h
        injection h with _ h
        subst h
        obtain ⟨t, m, ho, hdp, hia, hpm, hn, hcut⟩ := tree_of_walk xs f (d + 1) a q n1 (by omega) hg
        refine ⟨.neg t, m, ho, by simp only [T.depth]; omega, by omega, by simp only [T.size]; omega, hn, ?_⟩
        simp only [T.size, T.flat]
        rw [cut_add, hcut, ← hpm, hone, hia]
      | [a, b], hops, h, hone =>
        have h12 : opsZ f0 = 2 := by simpa using hops
        have hne : f0 ≠ 1 ∧ f0 ≠ 2 := by
          rcases ops_cases f0 with h | h | h | h | h <;> omega
        rcases hcs with hh | hh | ⟨_, _, rfl, rfl⟩
        · omega
        · omega
        obtain ⟨n1, hg, h⟩ := kid_one h
        obtain ⟨n2, hg2, h⟩ := kid_one h
        injection h with _ h
        subst h
        obtain ⟨tb, mb, hob, hdb, hib, hpb, hnb, hcb⟩ := tree_of_walk xs f (d + 1) b q n1 (by omega) hg
        subst hnb
        obtain ⟨ta, ma, hoa, hda, hia, hpa, hna, hca⟩ := tree_of_walk xs f (d + 1) a mb n2 (by omega) hg2
        refine ⟨.bin f0 ta tb, ma, ⟨h12, hoa, hob⟩, by simp only [T.depth]; omega, by omega, by simp only [T.size]; omega, hna, ?_⟩
        simp only [T.size, T.flat]
        rw [Nat.add_assoc ta.size, cut_add, hca, ← hpa, cut_add, hcb, ← hpb, hone, hia, hib]
      | [a, b, c], hops, h, hone =>
        have h12 : f0 = 9 := by
          rcases ops_cases f0 with h | h | h | h | h <;> simp at hops <;> omega
        subst h12
        rcases hcs with hh | hh | ⟨_, _, rfl, rfl⟩
        · omega
        · omega
        obtain ⟨n1, hg, h⟩ := kid_one h
        obtain ⟨n2, hg2, h⟩ := kid_one h
        obtain ⟨n3, hg3, h⟩ := kid_one h
        injection h with _ h
        subst h
        obtain ⟨tc, mc, hoc, hdc, hic, hpc, hnc, hcc⟩ := tree_of_walk xs f (d + 1) c q n1 (by omega) hg
        subst hnc
        obtain ⟨tb, mb, hob, hdb, hib, hpb, hnb, hcb⟩ := tree_of_walk xs f (d + 1) b mc n2 (by omega) hg2
        subst hnb
        obtain ⟨ta, ma, hoa, hda, hia, hpa, hna, hca⟩ := tree_of_walk xs f (d + 1) a mb n3 (by omega) hg3
        refine ⟨.ite ta tb tc, ma, ⟨hoa, hob, hoc⟩, by simp only [T.depth]; omega, by omega, by simp only [T.size]; omega, hna, ?_⟩
        simp only [T.size, T.flat]
        rw [Nat.add_assoc, Nat.add_assoc, cut_add, hca, ← hpa, cut_add, hcb, ← hpb, cut_add, hcc, ← hpc, hone, hia, hib, hic]
      | a :: b :: c :: e :: r, hops, h, hone =>
        exfalso
        simp only [List.length_cons] at hops
        rcases ops_cases f0 with h | h | h | h | h <;> omega
    · cases h

theorem cut_left {α : Type} {xs : List α} {m a b : Nat} {l r : List α} (h : (xs.drop m).take (a + b) = l ++ r) (hl : l.length = a) : (xs.drop m).take a = l ∧ (xs.drop (m + a)).take b = r := by
  rw [cut_add] at h
  have hlen : ((xs.drop m).take a).length = l.length ∨ (xs.drop m).length < a := by
    rw [List.length_take, hl]; omega
  rcases hlen with hlen | hlen
  · exact List.append_inj h hlen
  · exfalso
    have h1 := congrArg List.length h
    rw [List.length_append, List.length_append, List.length_take, List.length_take, List.length_drop, List.length_drop] at h1
    rw [List.length_drop] at hlen
    omega
theorem rd_of_cut {xs : List S57} {m : Nat} {x : S57} (h : (xs.drop m).take 1 = [x]) : rd_T57 xs (m : Int) = x := by
  have hm : m < xs.length := by
    have := congrArg List.length h
    rw [List.length_take, List.length_drop] at this
    simp at this
    omega
  rw [cut_one xs m hm] at h
  injection h
theorem kid_step (g : Int → Int → Bool × Int) (k n n1 : Int) (r : List Int) (h : g k n = (true, n1)) : (k :: r).foldl (kidStep g) (true, n) = r.foldl (kidStep g) (true, n1) := by
  rw [List.foldl_cons]
  show r.foldl (kidStep g) (g k n) = _
  rw [h]
theorem walk_of_tree (xs : List S57) : ∀ (t : T) (f : Nat) (d : Int) (m : Nat), t.ok → t.depth + d ≤ 41 → t.depth ≤ f → (xs.drop m).take t.size = t.flat m → walkV xs f ((m + t.size : Nat) - 1) d ((m + t.size : Nat) - 1) = (true, (m : Int) - 1)
  | .num n, f, d, m, ho, hd, hf, hc => by
    simp only [T.depth] at hd hf
    obtain ⟨f, rfl⟩ : ∃ g, f = g + 1 := ⟨f - 1, by omega⟩
    have hx := rd_of_cut (show (xs.drop m).take 1 = [_] from hc)
    have hi : (((m + (T.num n).size : Nat) : Int)) - 1 = (m : Int) := by simp only [T.size]; omega
    rw [hi, walk_succ, hx, if_pos ⟨rfl, by omega, by omega, (formed_iff _).2 ⟨rfl, .inl ⟨rfl, rfl, ho.1, ho.2⟩⟩⟩]
    rfl
  | .name s, f, d, m, ho, hd, hf, hc => by
    simp only [T.depth] at hd hf
    obtain ⟨f, rfl⟩ : ∃ g, f = g + 1 := ⟨f - 1, by omega⟩
    have hx := rd_of_cut (show (xs.drop m).take 1 = [_] from hc)
    have hi : (((m + (T.name s).size : Nat) : Int)) - 1 = (m : Int) := by simp only [T.size]; omega
    rw [hi, walk_succ, hx, if_pos ⟨rfl, by omega, by omega, (formed_iff _).2 ⟨rfl, .inr (.inl ⟨rfl, rfl, ho⟩)⟩⟩]
    rfl
  | .neg a, f, d, m, ho, hd, hf, hc => by
    simp only [T.depth] at hd hf
    have hda := T.depth_pos a
    obtain ⟨f, rfl⟩ : ∃ g, f = g + 1 := ⟨f - 1, by omega⟩
    obtain ⟨h1, h2⟩ := cut_left (show (xs.drop m).take (a.size + 1) = _ from hc) (T.flat_len a m)
    have hx := rd_of_cut h2
    have hi : (((m + (T.neg a).size : Nat) : Int)) - 1 = ((m + a.size : Nat) : Int) := by simp only [T.size]; omega
    rw [hi, walk_succ, hx, if_pos ⟨rfl, by omega, by omega, (formed_iff _).2 ⟨rfl, .inr (.inr ⟨(show (12 : Int) ≠ 1 by decide), (show (12 : Int) ≠ 2 by decide), rfl, rfl⟩)⟩⟩]
    show [_].foldl _ _ = _
    rw [kid_step (fun k n => walkV xs f k (d + 1) n) _ _ _ _ (walk_of_tree xs a f (d + 1) m ho (by omega) (by omega) h1)]
    rfl
  | .bin op a b, f, d, m, ho, hd, hf, hc => by
    simp only [T.depth] at hd hf
    have hda := T.depth_pos a
    obtain ⟨f, rfl⟩ : ∃ g, f = g + 1 := ⟨f - 1, by omega⟩
    obtain ⟨h1, h2⟩ := cut_left (show (xs.drop m).take (a.size + (b.size + 1)) = _ by rw [← Nat.add_assoc]; exact hc) (T.flat_len a m)
    obtain ⟨h3, h4⟩ := cut_left h2 (T.flat_len b _)
    have hx := rd_of_cut h4
    have hi : (((m + (T.bin op a b).size : Nat) : Int)) - 1 = ((m + a.size + b.size : Nat) : Int) := by simp only [T.size]; omega
    have hne : op ≠ 1 ∧ op ≠ 2 := by rcases ops_cases op with h | h | h | h | h <;> have := ho.1 <;> omega
    rw [hi, walk_succ, hx, if_pos ⟨rfl, by omega, by omega, (formed_iff _).2 ⟨ho.1, .inr (.inr ⟨hne.1, hne.2, rfl, rfl⟩)⟩⟩]
    show [_, _].foldl _ _ = _
    rw [kid_step (fun k n => walkV xs f k (d + 1) n) _ _ _ _ (walk_of_tree xs b f (d + 1) (m + a.size) ho.2.2 (by omega) (by omega) h3), kid_step (fun k n => walkV xs f k (d + 1) n) _ _ _ _ (walk_of_tree xs a f (d + 1) m ho.2.1 (by omega) (by omega) h1)]
    rfl
  | .ite a b c, f, d, m, ho, hd, hf, hc => by
    simp only [T.depth] at hd hf
    have hda := T.depth_pos a
    obtain ⟨f, rfl⟩ : ∃ g, f = g + 1 := ⟨f - 1, by omega⟩
    obtain ⟨h1, h2⟩ := cut_left (show (xs.drop m).take (a.size + (b.size + (c.size + 1))) = _ by rw [← Nat.add_assoc, ← Nat.add_assoc]; exact hc) (T.flat_len a m)
    obtain ⟨h3, h4⟩ := cut_left h2 (T.flat_len b _)
    obtain ⟨h5, h6⟩ := cut_left h4 (T.flat_len c _)
    have hx := rd_of_cut h6
    have hi : (((m + (T.ite a b c).size : Nat) : Int)) - 1 = ((m + a.size + b.size + c.size : Nat) : Int) := by simp only [T.size]; omega
    rw [hi, walk_succ, hx, if_pos ⟨rfl, by omega, by omega, (formed_iff _).2 ⟨rfl, .inr (.inr ⟨(show (9 : Int) ≠ 1 by decide), (show (9 : Int) ≠ 2 by decide), rfl, rfl⟩)⟩⟩]
    show [_, _, _].foldl _ _ = _
    rw [kid_step (fun k n => walkV xs f k (d + 1) n) _ _ _ _ (walk_of_tree xs c f (d + 1) (m + a.size + b.size) ho.2.2 (by omega) (by omega) h5), kid_step (fun k n => walkV xs f k (d + 1) n) _ _ _ _ (walk_of_tree xs b f (d + 1) (m + a.size) ho.2.1 (by omega) (by omega) h3), kid_step (fun k n => walkV xs f k (d + 1) n) _ _ _ _ (walk_of_tree xs a f (d + 1) m ho.1 (by omega) (by omega) h1)]
    rfl

/-- Well-formed, as a tree is. -/
def GoodT (t : T) : Prop := t.ok ∧ t.depth ≤ 40 ∧ t.size ≤ 300
theorem valid_iff (xs : List S57) : validX xs = true ↔ ∃ t, GoodT t ∧ xs = t.flat 0 := by
  constructor
  · intro h
    unfold validX at h
    simp only [Bool.and_eq_true, Bool.not_eq_true', decide_eq_false_iff_not, beq_iff_eq] at h
    obtain ⟨⟨h1, h2⟩, h3, h4⟩ := h
    obtain ⟨t, m, ho, hd, hi, hp, hn, hc⟩ := tree_of_walk xs 41 1 ((xs.length : Int) - 1) xs.length (-1) (Nat.le_refl _) (Prod.ext h3 h4)
    obtain rfl : m = 0 := by omega
    refine ⟨t, ⟨ho, by omega, by omega⟩, ?_⟩
    rw [← hc, List.drop_zero, List.take_of_length_le (by omega)]
  · rintro ⟨t, ⟨ho, hd, hs⟩, rfl⟩
    have hw := walk_of_tree (t.flat 0) t 41 1 0 ho (by omega) (by omega) (by rw [List.drop_zero, List.take_of_length_le (by rw [T.flat_len]; exact Nat.le_refl _)])
    have hp := t.size_pos
    have hl := t.flat_len 0
    unfold validX
    rw [hl]
    rw [Nat.zero_add] at hw
    rw [decide_eq_false (by omega), decide_eq_false (by omega), hw]
    rfl

/-- The nodes of a tree: each is as it has to be, and its operands lie before it. -/
theorem flat_nodes : ∀ (t : T) (m j : Nat) (x : S57), t.ok → (t.flat m)[j]? = some x → formedB x = true ∧ ∀ k, k ∈ x.f3 → (m : Int) ≤ k ∧ k < (m + j : Nat)
  | .num n, m, j, x, ho, h => by
    cases j with
    | zero => injection h with h; subst h; exact ⟨(formed_iff _).2 ⟨rfl, .inl ⟨rfl, rfl, ho.1, ho.2⟩⟩, fun k hk => by cases hk⟩
    | succ j => cases h
  | .name s, m, j, x, ho, h => by
    cases j with
    | zero => injection h with h; subst h; exact ⟨(formed_iff _).2 ⟨rfl, .inr (.inl ⟨rfl, rfl, ho⟩)⟩, fun k hk => by cases hk⟩
    | succ j => cases h
  | .neg a, m, j, x, ho, h => by
    simp only [T.flat] at h
    have hp := a.size_pos
    by_cases hj : j < a.size
    · rw [List.getElem?_append_left (by rw [T.flat_len]; exact hj)] at h
      exact flat_nodes a m j x ho h
    · rw [List.getElem?_append_right (by rw [T.flat_len]; omega), T.flat_len] at h
      obtain ⟨i, hi⟩ : ∃ i, j - a.size = i := ⟨_, rfl⟩
      rw [hi] at h
      cases i with
      | zero =>
        injection h with h; subst h
        refine ⟨(formed_iff _).2 ⟨rfl, .inr (.inr ⟨(show (12 : Int) ≠ 1 by decide), (show (12 : Int) ≠ 2 by decide), rfl, rfl⟩)⟩, fun k hk => ?_⟩
        simp at hk; omega
      | succ i => cases h
  | .bin op a b, m, j, x, ho, h => by
    simp only [T.flat] at h
    have hp := a.size_pos
    have hq := b.size_pos
    by_cases hj : j < a.size
    · rw [List.getElem?_append_left (by rw [T.flat_len]; exact hj)] at h
      exact flat_nodes a m j x ho.2.1 h
    · rw [List.getElem?_append_right (by rw [T.flat_len]; omega), T.flat_len] at h
      by_cases hj2 : j - a.size < b.size
      · rw [List.getElem?_append_left (by rw [T.flat_len]; exact hj2)] at h
        have := flat_nodes b (m + a.size) (j - a.size) x ho.2.2 h
        exact ⟨this.1, fun k hk => by have := this.2 k hk; omega⟩
      · rw [List.getElem?_append_right (by rw [T.flat_len]; omega), T.flat_len] at h
        obtain ⟨i, hi⟩ : ∃ i, j - a.size - b.size = i := ⟨_, rfl⟩
        rw [hi] at h
        cases i with
        | zero =>
          injection h with h; subst h
          have hne : op ≠ 1 ∧ op ≠ 2 := by rcases ops_cases op with h | h | h | h | h <;> have := ho.1 <;> omega
          refine ⟨(formed_iff _).2 ⟨ho.1, .inr (.inr ⟨hne.1, hne.2, rfl, rfl⟩)⟩, fun k hk => ?_⟩
          simp at hk; omega
        | succ i => cases h
  | .ite a b c, m, j, x, ho, h => by
    simp only [T.flat] at h
    have hp := a.size_pos
    have hq := b.size_pos
    have hr := c.size_pos
    by_cases hj : j < a.size
    · rw [List.getElem?_append_left (by rw [T.flat_len]; exact hj)] at h
      exact flat_nodes a m j x ho.1 h
    · rw [List.getElem?_append_right (by rw [T.flat_len]; omega), T.flat_len] at h
      by_cases hj2 : j - a.size < b.size
      · rw [List.getElem?_append_left (by rw [T.flat_len]; exact hj2)] at h
        have := flat_nodes b (m + a.size) (j - a.size) x ho.2.1 h
        exact ⟨this.1, fun k hk => by have := this.2 k hk; omega⟩
      · rw [List.getElem?_append_right (by rw [T.flat_len]; omega), T.flat_len] at h
        by_cases hj3 : j - a.size - b.size < c.size
        · rw [List.getElem?_append_left (by rw [T.flat_len]; exact hj3)] at h
          have := flat_nodes c (m + a.size + b.size) (j - a.size - b.size) x ho.2.2 h
          exact ⟨this.1, fun k hk => by have := this.2 k hk; omega⟩
        · rw [List.getElem?_append_right (by rw [T.flat_len]; omega), T.flat_len] at h
          obtain ⟨i, hi⟩ : ∃ i, j - a.size - b.size - c.size = i := ⟨_, rfl⟩
          rw [hi] at h
          cases i with
          | zero =>
            injection h with h; subst h
            refine ⟨(formed_iff _).2 ⟨rfl, .inr (.inr ⟨(show (9 : Int) ≠ 1 by decide), (show (9 : Int) ≠ 2 by decide), rfl, rfl⟩)⟩, fun k hk => ?_⟩
            simp at hk; omega
          | succ i => cases h
theorem valid_nodes (xs : List S57) (hv : validX xs = true) (j : Nat) (x : S57) (h : xs[j]? = some x) : formedB x = true ∧ ∀ k, k ∈ x.f3 → 0 ≤ k ∧ k < (j : Int) := by
  obtain ⟨t, ht, rfl⟩ := (valid_iff xs).1 hv
  have := flat_nodes t 0 j x ht.1 h
  exact ⟨this.1, fun k hk => by have := this.2 k hk; omega⟩
theorem valid_len (xs : List S57) (hv : validX xs = true) : 1 ≤ xs.length ∧ xs.length ≤ 300 := by
  obtain ⟨t, ht, rfl⟩ := (valid_iff xs).1 hv
  rw [T.flat_len]
  exact ⟨t.size_pos, ht.2.2⟩
end Go.Proofs.YtenecpmonodjaaaGreatDoor.PAll
