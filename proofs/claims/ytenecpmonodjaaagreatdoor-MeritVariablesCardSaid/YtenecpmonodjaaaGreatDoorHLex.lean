/- The lexer's functions, walked by hand. -/
import Derived.Test.YtenecpmonodjaaaGreatDoorBase
import Derived.Test.YtenecpmonodjaaaGreatDoorSpec
import Derived.Outline
import Derived.Test.YtenecpmonodjaaaGreatDoorShelf
import Derived.Lib.Hide
import Derived.Lib.IndexAny
import Derived.ChangeMaps5
import Derived.Deep.LoopGhost
import Derived.BigQuiet
import Derived.Deep.QuietTactic
import Derived.WalkMore
namespace Go.Proofs.YtenecpmonodjaaaGreatDoor.PAll
open Go.RowKit Go.Proofs.YtenecpmonodjaaaGreatDoorW.PrintWords Go.Proofs.YtenecpmonodjaaaGreatDoorW.PrintLast Go.Proofs.YtenecpmonodjaaaGreatDoorW.PrintMore
open Go.Proofs.YtenecpmonodjaaaGreatDoor.Obs
set_option linter.unusedVariables false
set_option linter.unusedSimpArgs false

/-! ### classes -/
def setAll (c : Int) (l : List UInt8) (xs : List Int) : List Int := l.foldl (fun xs ch => xs.set ch.toNat c) xs
theorem setAll_length (c : Int) (l : List UInt8) : ∀ xs, (setAll c l xs).length = xs.length := by
  induction l with
  | nil => intro xs; rfl
  | cons a l ih => intro xs; show (setAll c l (xs.set a.toNat c)).length = _; rw [ih]; simp
theorem setAll_snoc (c : Int) (l : List UInt8) (ch : UInt8) (xs : List Int) : setAll c (l ++ [ch]) xs = (setAll c l xs).set ch.toNat c := by simp [setAll]
theorem take_snocB (s : ByteArray) (k : Nat) (h : k < s.size) : s.data.toList.take (k + 1) = s.data.toList.take k ++ [s[k]] := by
  rw [List.take_succ_eq_append_getElem (by simpa using h)]; rfl

set_option maxHeartbeats 1000000 in
theorem classes1_calls (s : ByteArray) (c : Int) (b : Nat) (xs : List Int) (w : World) (hs : s.size ≤ 140737488351232) (hx : xs.length = 256)
    (hb : w.heap[b]? = some (.cells (nums .i64 xs).toArray 103 (0, 0))) :
    Calls Tryz.prog 97 #[.string s, .int .i64 c, .pointer (some ⟨b, 0, none⟩)] w fun e w' => e = .returned (.tuple #[]) ∧
      w'.heap[b]? = some (.cells (nums .i64 (setAll c s.data.toList xs)).toArray 103 (0, 0)) ∧ Fr (fun k => k = b) w w' := by
  go_enter Tryz.func97, Tryz.ntmps97
  go_wp2
  go_loopw [5] (fun i wr => ∃ k : Nat, k ≤ s.size ∧ i = .int .i64 k ∧ Aside0 (wr.heap[b]? = some (.cells (nums .i64 (setAll c (s.data.toList.take k) xs)).toArray 103 (0, 0))) ∧ Aside0 (Fr (fun k => k = b) w wr)) (fun i _ => s.size - (intOf i).toNat)
  case atStart => exact ⟨0, Nat.zero_le _, rfl, ⟨hb⟩, ⟨Fr.refl _ w⟩⟩
  case round =>
    obtain ⟨k, hk, rfl, HB, HG⟩ := hrel
    by_cases hlt : k < s.size
    · have hbt : s[k].toNat < 256 := s[k].toNat_lt
      obtain ⟨v0, hc0⟩ : ∃ v, wr.cell? ⟨b, s[k].toNat, none⟩ = some v := ⟨_, (blk_cell HB.out _).trans (by rw [List.getElem?_toArray, nums, List.getElem?_map, List.getElem?_eq_getElem (by rw [setAll_length, hx]; exact hbt)]; rfl)⟩
      have hf0 : wr.frozen? ⟨b, s[k].toNat, none⟩ = false := blk_frozen HB.out _
      clear hx
      go_wp2
      go_roundw
      case rel => exact ⟨k + 1, by omega, by go_num, ⟨by rw [take_snocB s k hlt, setAll_snoc]; have h := blk_set HB.out s[k].toNat (.int .i64 c); simpa [nums, List.map_set] using h⟩, ⟨HG.out.setCell _ _ (fun _ => rfl)⟩⟩
      case measure => simp [intOf]; omega
    · obtain rfl : k = s.size := by omega
      go_wp2
      go_end0
      refine ⟨rfl, ?_, HG.out⟩
      have h := HB.out
      rwa [List.take_of_length_le (by simp)] at h

def XS0 : List Int := List.replicate 256 0
theorem XS0_len : XS0.length = 256 := List.length_replicate ..
def XS1 : List Int := setAll 3 (⟨#[97, 98, 99, 100, 101, 102, 103, 104, 105, 106, 107, 108, 109, 110, 111, 112, 113, 114, 115, 116, 117, 118, 119, 120, 121, 122, 65, 66, 67, 68, 69, 70, 71, 72, 73, 74, 75, 76, 77, 78, 79, 80, 81, 82, 83, 84, 85, 86, 87, 88, 89, 90]⟩ : ByteArray).data.toList XS0
theorem XS1_len : XS1.length = 256 := by unfold XS1; rw [setAll_length]; exact XS0_len
def XS2 : List Int := setAll 4 (⟨#[48, 49, 50, 51, 52, 53, 54, 55, 56, 57]⟩ : ByteArray).data.toList XS1
theorem XS2_len : XS2.length = 256 := by unfold XS2; rw [setAll_length]; exact XS1_len
def XS3 : List Int := setAll 5 (⟨#[95]⟩ : ByteArray).data.toList XS2
theorem XS3_len : XS3.length = 256 := by unfold XS3; rw [setAll_length]; exact XS2_len
def XS4 : List Int := setAll 1 (⟨#[32, 9, 10]⟩ : ByteArray).data.toList XS3
theorem XS4_len : XS4.length = 256 := by unfold XS4; rw [setAll_length]; exact XS3_len
def XS5 : List Int := setAll 2 (⟨#[35]⟩ : ByteArray).data.toList XS4
theorem XS5_len : XS5.length = 256 := by unfold XS5; rw [setAll_length]; exact XS4_len
def XS6 : List Int := setAll 6 (⟨#[34]⟩ : ByteArray).data.toList XS5
theorem XS6_len : XS6.length = 256 := by unfold XS6; rw [setAll_length]; exact XS5_len
def XS7 : List Int := setAll 7 (⟨#[33]⟩ : ByteArray).data.toList XS6
theorem XS7_len : XS7.length = 256 := by unfold XS7; rw [setAll_length]; exact XS6_len
def XS8 : List Int := setAll 8 (⟨#[60, 62, 61]⟩ : ByteArray).data.toList XS7
theorem XS8_len : XS8.length = 256 := by unfold XS8; rw [setAll_length]; exact XS7_len
def XS9 : List Int := setAll 9 (⟨#[59, 44, 46, 58, 40, 41, 91, 93, 123, 125, 43, 45, 42, 47]⟩ : ByteArray).data.toList XS8
theorem XS9_len : XS9.length = 256 := by unfold XS9; rw [setAll_length]; exact XS8_len
theorem zc256 : Tryz.zeroCells103 = (nums .i64 XS0).toArray := by kernel_rfl
/-- The table of classes. -/
def clsTab : List Int := (List.range 256).map fun i => cls i.toUInt8
theorem XS9_tab : XS9 = clsTab := by kernel_rfl
theorem clsTab_len : clsTab.length = 256 := by simp [clsTab]
theorem clsTab_size : (Tryz.prog.info? 103).map (·.size) = some (nums .i64 clsTab).toArray.size := by rw [show (nums .i64 clsTab).toArray.size = 256 from by simp [nums, clsTab]]; kernel_rfl
theorem XS0_size : (nums .i64 XS0).toArray.size = (nums .i64 clsTab).toArray.size := by simp only [List.size_toArray, nums_length, XS0_len, clsTab_len]
theorem nums_one (k : IntKind) (xs : List Int) : (nums k xs).toArray.all (·.oneCell') = true := by simp [nums, Value.oneCell']
theorem clsTab_one : (nums .i64 clsTab).toArray.all (·.oneCell') = true := nums_one _ _

set_option maxHeartbeats 2000000 in
set_option maxRecDepth 100000 in
theorem classes_calls (w : World) :
    Calls Tryz.prog 73 #[] w fun e w' => e = .returned (.agg (nums .i64 clsTab).toArray) ∧ Below w.heap.size w w' := by
  have hmf : ∀ (fn : Fn) (first cap : Array Value) (w : World), (Instr.makeFunc fn first cap).run Tryz.prog w = .ok (.func fn first cap) w := fun _ _ _ _ => rfl
  go_enter Tryz.func73, Tryz.ntmps73
  go_wp2_with fail
  generalize hW : (w.alloc _).alloc _ = w0
  have hb : w0.heap[w.heap.size + 1]? = some (.cells (nums .i64 XS0).toArray 103 (0, 0)) := by rw [← hW, ← zc256]; simpa using blk_new (w.alloc (.cells Tryz.zeroCells103 103)) (.cells Tryz.zeroCells103 103)
  have hr : w0.heap[w.heap.size]? = some (.cells (nums .i64 XS0).toArray 103 (0, 0)) := by rw [← hW, ← zc256]; exact blk_alloc (blk_new w _) _
  have hF : Fr (fun _ => False) w w0 := by rw [← hW]; exact ((Fr.refl _ w).alloc _).alloc _
  clear hW
  refine (classes1_calls _ 3 _ XS0 _ (by decide) XS0_len hb).mono ?_
  rintro e w1 ⟨rfl, hb', hf'⟩
  replace hr := hf'.blk hr (by omega)
  replace hF := hF.step hf' (fun b hb he => by omega)
  replace hb := hb'
  clear hb' hf'
  go_wp2_with fail
  refine (classes1_calls _ 4 _ XS1 _ (by decide) XS1_len hb).mono ?_
  rintro e w2 ⟨rfl, hb', hf'⟩
  replace hr := hf'.blk hr (by omega)
  replace hF := hF.step hf' (fun b hb he => by omega)
  replace hb := hb'
  clear hb' hf'
  go_wp2_with fail
  refine (classes1_calls _ 5 _ XS2 _ (by decide) XS2_len hb).mono ?_
  rintro e w3 ⟨rfl, hb', hf'⟩
  replace hr := hf'.blk hr (by omega)
  replace hF := hF.step hf' (fun b hb he => by omega)
  replace hb := hb'
  clear hb' hf'
  go_wp2_with fail
  refine (classes1_calls _ 1 _ XS3 _ (by decide) XS3_len hb).mono ?_
  rintro e w4 ⟨rfl, hb', hf'⟩
  replace hr := hf'.blk hr (by omega)
  replace hF := hF.step hf' (fun b hb he => by omega)
  replace hb := hb'
  clear hb' hf'
  go_wp2_with fail
  refine (classes1_calls _ 2 _ XS4 _ (by decide) XS4_len hb).mono ?_
  rintro e w5 ⟨rfl, hb', hf'⟩
  replace hr := hf'.blk hr (by omega)
  replace hF := hF.step hf' (fun b hb he => by omega)
  replace hb := hb'
  clear hb' hf'
  go_wp2_with fail
  refine (classes1_calls _ 6 _ XS5 _ (by decide) XS5_len hb).mono ?_
  rintro e w6 ⟨rfl, hb', hf'⟩
  replace hr := hf'.blk hr (by omega)
  replace hF := hF.step hf' (fun b hb he => by omega)
  replace hb := hb'
  clear hb' hf'
  go_wp2_with fail
  refine (classes1_calls _ 7 _ XS6 _ (by decide) XS6_len hb).mono ?_
  rintro e w7 ⟨rfl, hb', hf'⟩
  replace hr := hf'.blk hr (by omega)
  replace hF := hF.step hf' (fun b hb he => by omega)
  replace hb := hb'
  clear hb' hf'
  go_wp2_with fail
  refine (classes1_calls _ 8 _ XS7 _ (by decide) XS7_len hb).mono ?_
  rintro e w8 ⟨rfl, hb', hf'⟩
  replace hr := hf'.blk hr (by omega)
  replace hF := hF.step hf' (fun b hb he => by omega)
  replace hb := hb'
  clear hb' hf'
  go_wp2_with fail
  refine (classes1_calls _ 9 _ XS8 _ (by decide) XS8_len hb).mono ?_
  rintro e w9 ⟨rfl, hb', hf'⟩
  replace hr := hf'.blk hr (by omega)
  replace hF := hF.step hf' (fun b hb he => by omega)
  replace hb := hb'
  clear hb' hf'
  rw [show setAll 9 _ XS8 = clsTab from XS9_tab] at hb
  go_wp2_with (first
    | (refine wpList_load_row rfl 103 _ rfl (w.heap.size + 1) rfl _ _ _ _ hb Tryz.underlying103 rfl clsTab_size ?_)
    | (refine wpList_store_row rfl 103 _ _ rfl w.heap.size _ rfl rfl _ _ hr clsTab_size XS0_size clsTab_one ?_))
  refine bodyPost_ret (results_cell_row rfl _ _ w.heap.size 103 (nums .i64 clsTab).toArray (0, 0) _ rfl (setRow_heap _ _ _ _ _ _ hr) Tryz.underlying103 rfl clsTab_size) rfl ⟨rfl, ?_⟩
  exact (hF.step (show Fr (fun k => k = w.heap.size) w9 (w9.setRow w.heap.size (nums .i64 clsTab).toArray) from ⟨rfl, rfl, rfl, by simp, fun k _ hk => setRow_other _ _ _ _ hk⟩) (fun b hb he => by omega)).toBelow (fun _ _ h => h)
end Go.Proofs.YtenecpmonodjaaaGreatDoor.PAll

/- The lexer's functions, walked by hand. -/
namespace Go.Proofs.YtenecpmonodjaaaGreatDoor.PAll
open Go.RowKit Go.Proofs.YtenecpmonodjaaaGreatDoorW.PrintWords Go.Proofs.YtenecpmonodjaaaGreatDoorW.PrintLast Go.Proofs.YtenecpmonodjaaaGreatDoorW.PrintMore
open Go.Proofs.YtenecpmonodjaaaGreatDoor.Obs
set_option linter.unusedVariables false
set_option linter.unusedSimpArgs false

/-! ### the scanner -/
def Scan (w : World) (g : Nat) (s : ByteArray) : Prop := w.heap[g]? = some (.cells (Value.string s :: nums .i64 clsTab).toArray 106 (0, 0))
theorem Scan.text {w : World} {g : Nat} {s : ByteArray} (h : Scan w g s) : w.cell? ⟨g, 0, none⟩ = some (.string s) := (blk_cell h 0).trans (by rw [List.getElem?_toArray]; rfl)
theorem Scan.cls {w : World} {g : Nat} {s : ByteArray} (h : Scan w g s) (c : UInt8) : w.cell? ⟨g, 1 + c.toNat, none⟩ = some (.int .i64 (cls c)) := by
  have h0 := blk_cell h (1 + c.toNat)
  rw [h0, List.getElem?_toArray, Nat.add_comm, List.getElem?_cons_succ, nums, List.getElem?_map]
  have hl : c.toNat < clsTab.length := by rw [clsTab_len]; exact c.toNat_lt
  rw [List.getElem?_eq_getElem hl]
  simp [clsTab]
def clsAt (s : ByteArray) (i : Nat) : Int := if h : i < s.size then cls s[i] else 0

set_option maxHeartbeats 1000000 in
theorem at_calls (s : ByteArray) (g i : Nat) (w : World) (hs : s.size ≤ 140737488351232) (hS : Scan w g s) :
    Calls Tryz.prog 99 #[.pointer (some ⟨g, 0, none⟩), .int .i64 i] w fun e w' => e = .returned (.int .i64 (clsAt s i)) ∧ ∃ n, w' = w.drewN n := by
  have c0 := hS.text
  by_cases h : i < s.size
  · have c1 := hS.cls s[i]
    have hd : decide (s.size ≤ i) = false := by simpa using h
    have hbt : s[i].toNat < 256 := s[i].toNat_lt
    clear hS
    go_enter Tryz.func99, Tryz.ntmps99
    go_wp2
    go_quiet (fail)
    go_wp2
    go_ret
    exact ⟨by simp [clsAt, h], nq, rfl⟩
  · have hd : decide (s.size ≤ i) = true := by simpa using h
    clear hS
    go_enter Tryz.func99, Tryz.ntmps99
    go_wp2
    go_ret
    exact ⟨by simp [clsAt, h], 0, rfl⟩

/-! ### slices.Index, slices.Contains at []int -/
def IdxPost (x : Int) (xs : List Int) (w : World) (e : Ending) (w' : World) : Prop := (∃ r : Int, e = .returned (.int .i64 r) ∧ decide (0 ≤ r) = xs.contains x) ∧ w = w'
theorem index_calls (xs : List Int) (x : Int) (A : Option Addr) (c : Nat) (w : World) (hr : Kd.C (Kd.int .i64) w A xs.length xs) (hl : xs.length ≤ 1000) :
    Calls Tryz.prog 120 #[.slice A xs.length c, .int .i64 x] w (IdxPost x xs w) := by
  go_enter Tryz.func120, Tryz.ntmps120
  go_wp2
  go_loop [8] (fun i => ∃ k : Nat, k ≤ xs.length ∧ i = .int .i64 k ∧ Aside0 (∀ j, j < k → xs.getD j 0 ≠ x)) (fun i => xs.length - (intOf i).toNat)
  case atStart => exact ⟨0, Nat.zero_le _, rfl, ⟨fun j hj => by omega⟩⟩
  case round =>
    obtain ⟨k, hk, rfl, HN⟩ := hrel
    by_cases hlt : k < xs.length
    · obtain ⟨ad, e, hx⟩ := Kd.at_int hr k (by omega) (by omega)
      subst e
      simp only [Int.toNat_natCast] at hx
      have hm : rd xs k ∈ xs := by
        unfold rd
        rw [Int.toNat_natCast, List.getD_eq_getElem?_getD, List.getElem?_eq_getElem hlt]
        exact List.getElem_mem hlt
      by_cases he : x = rd xs k
      · have hb : (x == rd xs k) = true := by simpa using he
        obtain HM := Aside0.mk hm
        clear hr hm
        go_wp2
        go_ret
        exact ⟨⟨k, rfl, by have := HM.out; simp [this]⟩, rfl⟩
      · have hb : (x == rd xs k) = false := by simpa using he
        clear hr hm
        go_wp2
        refine ⟨⟨k + 1, by omega, by go_num, ⟨fun j hj => ?_⟩⟩, by simp [intOf]; omega⟩
        rcases Nat.lt_or_ge j k with h | h
        · exact HN.out j h
        · obtain rfl : j = k := by omega
          exact fun h => he (by rw [← h]; simp [rd])
    · go_wp2
      go_ret
      refine ⟨⟨-1, rfl, ?_⟩, rfl⟩
      have hn : ¬ x ∈ xs := by
        intro hx
        obtain ⟨j, hj, e⟩ := List.getElem_of_mem hx
        exact HN.out j (by omega) (by rw [List.getD_eq_getElem?_getD, List.getElem?_eq_getElem hj]; exact e)
      simp [hn]

theorem contains_calls (xs : List Int) (x : Int) (A : Option Addr) (c : Nat) (w : World) (hr : Kd.C (Kd.int .i64) w A xs.length xs) (hl : xs.length ≤ 1000) :
    Calls Tryz.prog 110 #[.slice A xs.length c, .int .i64 x] w fun e w' => e = .returned (.bool (xs.contains x)) ∧ w = w' := by
  go_enter Tryz.func110, Tryz.ntmps110
  go_wp2_with fail
  refine (index_calls xs x A c _ hr hl).mono ?_
  rintro e w' ⟨⟨r, rfl, hb⟩, rfl⟩
  have HB := Lib.hid hb
  clear hb hr
  go_wp2
  go_ret
  exact ⟨by rw [← HB.out]; rfl, rfl⟩

/-! ### (scanner).while -/
def whileL (s : ByteArray) (p : UInt8 → Bool) (i : Nat) : Nat := i + ((s.data.toList.drop i).takeWhile p).length
theorem drop_cons (s : ByteArray) (k : Nat) (h : k < s.size) : s.data.toList.drop k = s[k] :: s.data.toList.drop (k + 1) := by
  rw [List.drop_eq_getElem_cons (by simpa using h)]; rfl
theorem whileL_step (s : ByteArray) (p : UInt8 → Bool) (k : Nat) (h : k < s.size) (hp : p s[k] = true) : whileL s p (k + 1) = whileL s p k := by
  unfold whileL; rw [drop_cons s k h, List.takeWhile_cons, if_pos hp, List.length_cons]; omega
theorem whileL_stop (s : ByteArray) (p : UInt8 → Bool) (k : Nat) (h : k < s.size) (hp : p s[k] = false) : whileL s p k = k := by
  unfold whileL; rw [drop_cons s k h, List.takeWhile_cons, if_neg (by simp [hp])]; rfl
theorem whileL_end (s : ByteArray) (p : UInt8 → Bool) : whileL s p s.size = s.size := by
  unfold whileL; rw [List.drop_eq_nil_of_le (by simp)]; rfl
theorem whileL_le (s : ByteArray) (p : UInt8 → Bool) (i : Nat) (h : i ≤ s.size) : i ≤ whileL s p i ∧ whileL s p i ≤ s.size := by
  unfold whileL
  have h1 := (List.takeWhile_prefix p (l := s.data.toList.drop i)).length_le
  rw [List.length_drop, data_length] at h1
  omega
theorem clsAt_lt (s : ByteArray) (k : Nat) (h : k < s.size) : clsAt s k = cls s[k] := by simp [clsAt, h]

def IntDrew (r : Int) (w : World) (e : Ending) (w' : World) : Prop := e = .returned (.int .i64 r) ∧ ∃ n, w' = w.drewN n
set_option maxHeartbeats 1000000 in
theorem while_calls (s : ByteArray) (g i : Nat) (cl : List Int) (p : UInt8 → Bool) (A : Option Addr) (c : Nat) (w : World) (hs : s.size ≤ 140737488351232) (hS : Scan w g s)
    (hr : Kd.C (Kd.int .i64) w A cl.length cl) (hl : cl.length ≤ 1000) (hp : ∀ ch, cl.contains (cls ch) = p ch) (hi : i ≤ s.size) :
    Calls Tryz.prog 98 #[.pointer (some ⟨g, 0, none⟩), .int .i64 i, .slice A cl.length c] w (IntDrew (whileL s p i) w) := by
  have c0 := hS.text
  have HS := Lib.hid hS
  have HR := Lib.hid hr
  have HP := Lib.hid hp
  clear hS hr hp
  go_enter Tryz.func98, Tryz.ntmps98
  go_wp2
  go_loopw [1] (fun i' wr => ∃ k n : Nat, k ≤ s.size ∧ i' = .int .i64 k ∧ Aside0 (whileL s p k = whileL s p i) ∧ wr = w.drewN n) (fun i _ => s.size - (intOf i).toNat)
  case atStart => exact ⟨i, 0, hi, rfl, ⟨rfl⟩, rfl⟩
  case round =>
    obtain ⟨k, n, hk, rfl, HN, rfl⟩ := hrel
    by_cases hlt : k < s.size
    · cases hpp : p s[k] with
      | true =>
        have HPP := Lib.hid hpp
        clear hpp
        go_wp2_with fail
        refine (at_calls s g k (w.drewN n) hs HS.out).mono ?_
        rintro e w1 ⟨rfl, m, rfl⟩
        rw [clsAt_lt s k hlt]
        go_wp2_with fail
        refine (contains_calls cl _ A c (w.drewN (n + m)) HR.out hl).mono ?_
        rintro e w1 ⟨rfl, rfl⟩
        rw [HP.out, HPP.out]
        go_wp2
        go_roundw
        case rel => exact ⟨k + 1, n + m, by omega, by go_num, ⟨by rw [whileL_step s p k hlt HPP.out]; exact HN.out⟩, rfl⟩
        case measure => simp [intOf]; omega
      | false =>
        have HPP := Lib.hid hpp
        clear hpp
        go_wp2_with fail
        refine (at_calls s g k (w.drewN n) hs HS.out).mono ?_
        rintro e w1 ⟨rfl, m, rfl⟩
        rw [clsAt_lt s k hlt]
        go_wp2_with fail
        refine (contains_calls cl _ A c (w.drewN (n + m)) HR.out hl).mono ?_
        rintro e w1 ⟨rfl, rfl⟩
        rw [HP.out, HPP.out]
        go_wp2
        go_ret
        exact ⟨by rw [← HN.out, whileL_stop s p k hlt HPP.out]; rfl, n + m, rfl⟩
    · obtain rfl : k = s.size := by omega
      go_wp2
      go_ret
      exact ⟨by rw [← HN.out, whileL_end]; rfl, n, rfl⟩

/-! ### (scanner).gap -/
theorem Scan.below {w w' : World} {g : Nat} {s : ByteArray} (h : Scan w g s) (hb : Below w.heap.size w w') : Scan w' g s := (hb.block g (blk_lt h)).trans h
def gapAt (s : ByteArray) (i : Nat) : Nat := i + gapL false (s.data.toList.drop i)
theorem gapAt_le (s : ByteArray) (i : Nat) (h : i ≤ s.size) : gapAt s i ≤ s.size := by
  unfold gapAt
  have := gapL_le (s.data.toList.drop i) false
  rw [List.length_drop, data_length] at this
  omega
theorem drop_takeWhile (p : UInt8 → Bool) (l : List UInt8) : l.drop (l.takeWhile p).length = l.dropWhile p := by
  induction l with
  | nil => rfl
  | cons c r ih => cases h : p c <;> simp [h, ih]
theorem extract_end (s : ByteArray) (k : Nat) : (s.extract k s.size).data.toList = s.data.toList.drop k := by
  simp [ByteArray.data_extract]
  rw [List.take_of_length_le (by simp)]
theorem lit_ints (W : World) (xs : List Int) (e : TypeId) (hl : xs.length ≤ 1000) : Kd.C (Kd.int .i64) (W.alloc (.cells (nums .i64 xs).toArray e)) (some ⟨W.heap.size, 0, none⟩) xs.length xs := by
  obtain ⟨A, c, h, hr⟩ := own_reads (own_lit W 0 e .i64 xs (Nat.zero_le _) (by omega))
  injection h with h
  subst h
  exact Kd.C_of_reads (enc := Value.int .i64) (d := (0 : Int)) (h1 := fun _ => rfl) hr
theorem index10 (c : UInt8) (r : List UInt8) (h : c.toNat ≠ 10) : Lib.indexByte (c :: r) ((10 : Int).toNat.toUInt8) ≠ ((0 : Nat) : Int) := by
  have hne : (c == 10) = false := by
    simp only [beq_eq_false_iff_ne, ne_eq]; intro e; exact h (by rw [e]; rfl)
  have := Lib.indexByte_ge r 10
  show Lib.indexByte (c :: r) 10 ≠ _
  simp only [Lib.indexByte, hne, Bool.false_eq_true, if_false]
  split
  · decide
  · rename_i h2
    have : ¬ Lib.indexByte r 10 = -1 := by simpa using h2
    omega
theorem gapAt_while (s : ByteArray) (i : Nat) : gapAt s (whileL s isBlank i) = gapAt s i := by
  have h := gapL_blank (s.data.toList.drop i)
  have e : s.data.toList.drop (whileL s isBlank i) = (s.data.toList.drop i).dropWhile isBlank := by
    unfold whileL; rw [← List.drop_drop]
    exact drop_takeWhile _ _
  unfold gapAt; rw [e, h]; unfold whileL; omega
theorem while_stop (s : ByteArray) (p : UInt8 → Bool) (i : Nat) (h : whileL s p i < s.size) : p s[whileL s p i] = false := by
  have h1 : s.data.toList.drop (whileL s p i) = (s.data.toList.drop i).dropWhile p := by
    unfold whileL; rw [← List.drop_drop]
    exact drop_takeWhile _ _
  rw [drop_cons s _ h] at h1
  have h2 := List.head?_dropWhile_not p (s.data.toList.drop i)
  rw [← h1] at h2
  simpa using h2

def IntBelow (r : Int) (w : World) (e : Ending) (w' : World) : Prop := e = .returned (.int .i64 r) ∧ Below w.heap.size w w'
set_option maxHeartbeats 1000000 in
theorem gap_calls (s : ByteArray) (g i : Nat) (w : World) (hs : s.size ≤ 140737488351232) (hS : Scan w g s) (hi : i ≤ s.size) :
    Calls Tryz.prog 74 #[.pointer (some ⟨g, 0, none⟩), .int .i64 i] w (IntBelow (gapAt s i) w) := by
  have HS := Lib.hid hS
  clear hS
  go_enter Tryz.func74, Tryz.ntmps74
  go_wp2_with fail
  refine (while_calls s g i [1] isBlank _ _ _ hs (HS.out.below (below_alloc (Below.refl _ _) _)) (lit_ints w [1] 3 (by decide)) (by decide) cls_blank hi).mono ?_
  rintro e w1 ⟨rfl, n, rfl⟩
  go_wp2_with fail
  go_loopw [1, 5] (fun i' _ wr => ∃ k : Nat, k ≤ s.size ∧ i' = .int .i64 k ∧ Aside0 (gapAt s k = gapAt s i) ∧ Aside0 (∀ h : k < s.size, isBlank s[k] = false) ∧ Aside0 (Below w.heap.size w wr)) (fun i _ _ => s.size - (intOf i).toNat)
  case atStart => exact ⟨whileL s isBlank i, (whileL_le s isBlank i hi).2, rfl, ⟨gapAt_while s i⟩, ⟨while_stop s isBlank i⟩, ⟨pw_below_drewN (below_alloc (Below.refl _ _) _) _⟩⟩
  case round =>
    obtain ⟨k, hk, rfl, HN, HK, HB⟩ := hrel
    go_wp2_with fail
    refine (at_calls s g k wr hs (HS.out.below HB.out)).mono ?_
    rintro e w1 ⟨rfl, m, rfl⟩
    by_cases hh : clsAt s k = 2
    · have hb : (clsAt s k == 2) = true := by simpa using hh
      have hlt : k < s.size := by
        rcases Nat.lt_or_ge k s.size with h | h
        · exact h
        · simp [clsAt, Nat.not_lt.2 h] at hh
      have c0 := (HS.out.below HB.out).text
      clear hh
      have hc : (s[k]).toNat = 35 := by
        have := eq_of_beq hb
        rw [clsAt_lt s k hlt] at this
        exact (cls_hash _).1 this
      have hg : gapL false (s.data.toList.drop k) = gapL true (s.data.toList.drop k) := by rw [drop_cons s k hlt]; exact gapL_hash _ _ hc
      have HC := Lib.hid hc
      have HGG := Lib.hid hg
      clear hc hg
      go_wp2_with fail
      refine (Tryz.strings_IndexByte _ _ _).mono ?_
      rintro e w1 ⟨rfl, rfl⟩
      rw [extract_end]
      rcases gapL_true (s.data.toList.drop k) with ⟨h1, h2⟩ | ⟨j, h1, h2, h3⟩
      · rw [show Lib.indexByte (s.data.toList.drop k) ((10 : Int).toNat.toUInt8) = -1 from h1]
        have H2 := Lib.hid h2
        clear h1 h2
        go_wp2
        go_ret
        refine ⟨?_, pw_below_drewN HB.out _⟩
        have hz : gapAt s k = s.size := by
          unfold gapAt
          rw [HGG.out, H2.out, List.length_drop, data_length]; omega
        rw [← HN.out, hz]; rfl
      · rw [show Lib.indexByte (s.data.toList.drop k) ((10 : Int).toNat.toUInt8) = j from h1]
        have hj : k + j < s.size := by rw [List.length_drop, data_length] at h2; omega
        have hj0 : 0 < j := by
          rcases Nat.eq_zero_or_pos j with h | h
          · subst h
            rw [drop_cons s k hlt] at h1
            exact absurd h1 (index10 _ _ (by rw [HC.out]; decide))
          · exact h
        have H3 := Lib.hid h3
        clear h1 h3
        go_wp2_with fail
        rw [show ((k : Int) + (j : Int)) = ((k + j : Nat) : Int) from by push_cast; rfl]
        refine (while_calls s g (k + j) [1] isBlank _ _ _ hs (HS.out.below (below_alloc (pw_below_drewN HB.out _) _)) (lit_ints (wr.drewN m) [1] 3 (by decide)) (by decide) cls_blank (by omega)).mono ?_
        rintro e w1 ⟨rfl, n2, rfl⟩
        have hle := whileL_le s isBlank (k + j) (by omega)
        go_wp2
        refine ⟨⟨whileL s isBlank (k + j), hle.2, rfl, ⟨?_⟩, ⟨while_stop s isBlank _⟩, ⟨pw_below_drewN (below_alloc (pw_below_drewN HB.out _) _) _⟩⟩, by simp [intOf]; omega⟩
        rw [gapAt_while, ← HN.out]
        unfold gapAt
        rw [HGG.out, H3.out, List.drop_drop]; omega
    · have hb : (clsAt s k == 2) = false := by simpa using hh
      clear hh
      go_wp2
      go_ret
      refine ⟨?_, pw_below_drewN HB.out _⟩
      have hz : gapAt s k = k := by
        rcases Nat.lt_or_ge k s.size with h | h
        · unfold gapAt
          rw [drop_cons s k h, gapL_none _ _ (fun hc => ?_) (HK.out h)]
          · rfl
          · rw [clsAt_lt s k h, (cls_hash _).2 hc] at hb
            cases hb
        · unfold gapAt
          rw [List.drop_eq_nil_of_le (by rw [data_length]; omega)]; rfl
      rw [← HN.out, hz]; rfl
end Go.Proofs.YtenecpmonodjaaaGreatDoor.PAll

/- strings.IndexAny at the two bytes that end a string literal. -/
namespace Go.Proofs.YtenecpmonodjaaaGreatDoor.PAll
open Go.RowKit Go.Proofs.YtenecpmonodjaaaGreatDoorW.PrintWords Go.Proofs.YtenecpmonodjaaaGreatDoorW.PrintLast Go.Proofs.YtenecpmonodjaaaGreatDoorW.PrintMore
open Go.Proofs.YtenecpmonodjaaaGreatDoor.Obs
open Go.ChangeMaps
set_option linter.unusedVariables false
set_option linter.unusedSimpArgs false

theorem next_iter {P : Program} (w : World) (b : Nat) (s : ByteArray) (pos : Nat) (ty : TypeId) (hb : w.heap[b]? = some (.stringIter s pos)) (h : pos < s.size) :
    (Instr.next (.pointer (some ⟨b, 0, none⟩)) true ty).run P w = .ok (.tuple #[.bool true, .int .i64 pos, .int .i32 (Utf8.decode s pos).1]) (setBlock w b (.stringIter s (pos + (Utf8.decode s pos).2))) := by
  simp only [Instr.next, getObj, setObj, Sem.run_bind, Sem.run, hb, Result.andThen, h, if_true]
  simp [goInt, setBlock]
theorem next_over {P : Program} (w : World) (b : Nat) (s : ByteArray) (pos : Nat) (ty : TypeId) (hb : w.heap[b]? = some (.stringIter s pos)) (h : ¬ pos < s.size) :
    (Instr.next (.pointer (some ⟨b, 0, none⟩)) true ty).run P w = .ok (.tuple #[.bool false]) w := by
  simp [Instr.next, getObj, Sem.run, hb, h]

/-- The bytes of a code point that is no ASCII one. -/
theorem encode_high (r : Int) (h : 128 ≤ r) : ((Utf8.encode r).size = 2 ∧ ∃ (x : UInt8), 128 ≤ x.toNat ∧ (Utf8.encode r).data.toList[1]? = some x) ∨ (3 ≤ (Utf8.encode r).size ∧ (Utf8.encode r).size ≤ 4) := by
  unfold Utf8.encode
  simp only
  have hc : ¬ (if Utf8.valid r = true then r.toNat else Utf8.runeError) < 128 := by
    split
    · omega
    · decide
  generalize (if Utf8.valid r = true then r.toNat else Utf8.runeError) = c at *
  rw [if_neg hc]
  split
  · left
    refine ⟨rfl, UInt8.ofNat (128 + c % 64), ?_, rfl⟩
    rw [UInt8.toNat_ofNat']
    omega
  · right
    split
    · exact ⟨by show 3 ≤ 3; omega, by show 3 ≤ 4; omega⟩
    · exact ⟨by show 3 ≤ 4; omega, by show 4 ≤ 4; omega⟩

theorem indexByte_nil (s : ByteArray) (hs : s.data.toList = []) (c : Int) (w : World) : Calls Tryz.prog 100 #[.string s, .int .u8 c] w fun e w' => e = .returned (.int .i64 (-1)) ∧ w' = w :=
  (Tryz.strings_IndexByte s c w).mono fun e w' h => ⟨by rw [h.1, hs]; rfl, h.2⟩

set_option maxHeartbeats 4000000 in
set_option maxRecDepth 100000 in
theorem indexRune_high (r : Int) (h : 128 ≤ r) (hle : r ≤ 2147483647) (w : World) : Calls Tryz.prog 114 #[.string ⟨#[34, 10]⟩, .int .i32 r] w (IntBelow (-1) w) := by
  go_enter Tryz.func114, Tryz.ntmps114
  by_cases hr : r = 65533
  · subst hr
    go_wp2_with fail
    go_loopg [5, 6] 2 (fun g _ _ wx => ∃ i : Nat, i + g = 2 ∧ wx = w.iter ⟨#[34, 10]⟩ i)
    case atStart => exact ⟨0, rfl, rfl⟩
    case round =>
      obtain ⟨i, hig, rfl⟩ := hrel
      cases gk with
      | zero =>
        obtain rfl : i = 2 := by omega
        have hnx := run_next_end (P := Tryz.prog) w (⟨#[34, 10]⟩ : ByteArray) 2
        go_wp2
        go_ret
        exact ⟨rfl, below_alloc (Below.refl _ _) _⟩
      | succ g =>
        have hi : i = 0 ∨ i = 1 := by omega
        rcases hi with rfl | rfl
        · have hnx := fun ty => run_next_ascii (P := Tryz.prog) w (⟨#[34, 10]⟩ : ByteArray) 0 ty (by decide) (by decide)
          go_wp2
          go_roundg g
          case measure => omega
          case rel => exact ⟨1, by omega, rfl⟩
        · have hnx := fun ty => run_next_ascii (P := Tryz.prog) w (⟨#[34, 10]⟩ : ByteArray) 1 ty (by decide) (by decide)
          go_wp2
          go_roundg g
          case measure => omega
          case rel => exact ⟨2, by omega, rfl⟩
  · have hrb : (r == 65533) = false := beq_eq_false_iff_ne.2 hr
    go_wp2_with fail
    refine (Tryz.utf8_ValidRune r _).mono ?_
    rintro e w1 ⟨rfl, rfl⟩
    cases hv : Lib.validRune r with
    | false =>
      go_wp2
      go_ret
      exact ⟨rfl, Below.refl _ _⟩
    | true =>
      have hen := encode_high r h
      have hcv : ∀ wx : World, (convert 21 9 (.int .i32 r)).run Tryz.prog wx = .ok (.string (Utf8.encode r)) wx := fun _ => by kernel_rfl
      generalize Utf8.encode r = rs at hen hcv
      rcases hen with ⟨hsz, x, hx, hxl⟩ | ⟨h3, h4⟩
      · obtain ⟨y, rfl⟩ : ∃ y, rs = ⟨#[y, x]⟩ := by
          obtain ⟨⟨l⟩⟩ := rs
          match l, hsz, hxl with
          | [y, z], _, hxl => exact ⟨y, by simp at hxl; rw [hxl]⟩
        have hx10 : ((10 : Int) != (x.toNat : Int)) = true := bne_iff_ne.2 (by omega)
        have hx11 : ((((⟨#[34, 10]⟩ : ByteArray)[1]'(by decide)).toNat : Int) != ((((⟨#[y, x]⟩ : ByteArray)[1]'(by show 1 < 2; omega)).toNat : Int))) = true := hx10
        clear hxl hsz
        go_wp2_with fail
        go_step3
        go_wp2_with fail
        refine wp_loop_rounds 1 ?_
        rw [rounds_succ]
        go_wp2_with fail
        go_step3
        go_wp2_with fail
        go_quiet (fail)
        have hBq := pw_below_drewN (Below.refl w1.heap.size w1) nq
        generalize w1.drewN nq = w2 at *
        go_wp2_with fail
        go_quiet ((go_at_call 100; exact Calls.quiet_of_same (indexByte_nil _ (by rfl) _ _)))
        go_wp2_with fail
        rw [Exit.noGoto_ret]
        go_ret
        exact ⟨rfl, hBq.trans (pw_below_drewN (Below.refl _ _) _)⟩
      · have h0 : decide ((rs.size : Int) - 1 < 2) = false := decide_eq_false (by omega)
        go_wp2_with fail
        go_step3
        go_wp2_with fail
        refine wp_loop_rounds 1 ?_
        rw [rounds_succ]
        go_wp2_with fail
        rw [Exit.noGoto_ret]
        go_ret
        exact ⟨rfl, Below.refl _ _⟩

def AnyP (r : Int) (w : World) (e : Ending) (w' : World) : Prop := e = .returned (.int .i64 r) ∧ Below w.heap.size w w'
theorem below_iter {w0 w : World} {b : Nat} {o : Obj} (h : Below w0.heap.size w0 w) (hb : w0.heap.size ≤ b) : Below w0.heap.size w0 (setBlock w b o) :=
  ⟨h.os, h.tape, h.output, by simpa [setBlock] using h.size, fun k hk => (show (w.heap.setIfInBounds b o)[k]? = w.heap[k]? from Array.getElem?_setIfInBounds_ne (by omega)).trans (h.block k hk)⟩
theorem iter_same {w : World} {b : Nat} {o' : Obj} (h : w.heap[b]? = some o') (o : Obj) : (setBlock w b o).heap[b]? = some o := by
  show (w.heap.setIfInBounds b o)[b]? = _
  rw [Array.getElem?_setIfInBounds_self_of_lt (blk_lt h)]
theorem noAny_cover (s : ByteArray) (i : Nat) (hi : i < s.size) (ha : 128 ≤ (s.get! i).toNat) (h : Lib.NoAny s.data.toList [34, 10] i) : Lib.NoAny s.data.toList [34, 10] (i + (Utf8.decode s i).2) := by
  intro j b hj hb
  by_cases hji : j < i
  · exact h j b hji hb
  · have hc := (decode_cover s i hi ha).2 (j - i) (by omega)
    have hlt := (decode_cover s i hi ha).1
    rw [show i + (j - i) = j by omega] at hc
    rw [get_data s j (by omega)] at hb
    obtain rfl := Option.some.inj hb
    have h34 : ¬ s.get! j = 34 := fun e => by rw [e] at hc; exact absurd hc (by decide)
    have h10 : ¬ s.get! j = 10 := fun e => by rw [e] at hc; exact absurd hc (by decide)
    simp [h34, h10]
set_option maxHeartbeats 4000000 in
set_option maxRecDepth 100000 in
theorem indexAny_short (s : ByteArray) (w : World) (h8 : s.size ≤ 8) :
    Calls Tryz.prog 102 #[.string s, .string ⟨#[34, 10]⟩] w (IntBelow (Lib.indexAny s.data.toList [34, 10]) w) := by
  have h8z : decide ((8 : Int) < (s.size : Int)) = false := decide_eq_false (by omega)
  go_enter Tryz.func102, Tryz.ntmps102
  go_wp2_with fail
  refine (Tryz.strings_shouldUseASCIISet _ _).mono ?_
  rintro e w1 ⟨rfl, hw⟩
  rw [hw, h8z]
  go_wp2_with fail
  have hB1 := below_alloc (Below.refl w.heap.size w) (.stringIter s 0)
  have hI1 := blk_new w (.stringIter s 0)
  have HS1 : (w.iter s 0) = w.alloc (.stringIter s 0) := rfl
  rw [HS1]
  generalize w.alloc (.stringIter s 0) = w2 at *
  go_loopg [9, 10] s.size (fun g _ _ wx => ∃ i : Nat, i + g = s.size ∧ Lib.NoAny s.data.toList [34, 10] i ∧ wx.heap[w.heap.size]? = some (.stringIter s i) ∧ Below w.heap.size w wx)
  case atStart => exact ⟨0, by omega, Lib.NoAny.zero _ _, hI1, hB1⟩
  case round =>
    obtain ⟨i, hig, hno, hI, hB⟩ := hrel
    clear hI1 hB1 HS1 hw h8z
    have HN := Aside0.mk hno
    clear hno
    cases gk with
    | zero =>
      obtain rfl : i = s.size := by omega
      have hnx := fun ty => next_over (P := Tryz.prog) _ _ s s.size ty hI (by omega)
      have HB := Aside0.mk hB
      clear hB hI
      go_wp2
      go_ret
      exact ⟨by rw [Lib.indexAny_none (by rw [← Lib.size_eq]; exact HN.out)]; rfl, HB.out⟩
    | succ g =>
      have hi : i < s.size := by omega
      have hnx := fun ty => next_iter (P := Tryz.prog) _ _ s i ty hI hi
      have hc1 := get_at s i hi
      rw [Nat.add_zero] at hc1
      have hI3 := iter_same hI (.stringIter s (i + (Utf8.decode s i).2))
      have hB3 := below_iter (w0 := w) (o := .stringIter s (i + (Utf8.decode s i).2)) hB (Nat.le_refl _)
      by_cases ha : (s[i]'hi).toNat < 128
      · have hdec := decode_ascii s i hi ha
        rw [hdec] at hnx hI3 hB3
        obtain ⟨x, hx⟩ : ∃ x : UInt8, s[i]'hi = x := ⟨_, rfl⟩
        have hxl : s.data.toList[i]? = some x := by rw [← hx]; exact Lib.data_getElem? s i hi
        rw [hx] at ha hnx
        have Hx := Aside0.mk hxl
        have HI := Aside0.mk hI3
        have HB := Aside0.mk hB3
        have hcon := Lib.contains_iff_indexByte [34, 10] x
        have hback : ((x.toNat : Int)).toNat.toUInt8 = x := by simp
        clear hxl hx hI3 hB3 hI hB hdec hc1
        simp only at hnx HI HB
        generalize setBlock wr w.heap.size (.stringIter s (i + 1)) = w3 at hnx HI HB
        cases hin : ([34, 10] : List UInt8).contains x
        · rw [hin] at hcon
          have hlt : ¬ ((0 : Int) ≤ Lib.indexByte [34, 10] x) := of_decide_eq_false hcon.symm
          clear hcon
          go_wp2_with fail
          refine (Tryz.strings_IndexRune_ascii _ _ _ (by omega) (by omega)).mono ?_
          rintro e w' ⟨rfl, hw⟩
          rw [hw, hback]
          go_wp2_with fail
          go_roundg g
          case measure => omega
          case rel => exact ⟨i + 1, by omega, HN.out.succ Hx.out hin, HI.out, HB.out⟩
        · rw [hin] at hcon
          have hge : (0 : Int) ≤ Lib.indexByte [34, 10] x := of_decide_eq_true hcon.symm
          clear hcon
          go_wp2_with fail
          refine (Tryz.strings_IndexRune_ascii _ _ _ (by omega) (by omega)).mono ?_
          rintro e w' ⟨rfl, hw⟩
          rw [hw, hback]
          go_wp2_with fail
          go_ret
          exact ⟨by rw [Lib.indexAny_hit HN.out Hx.out hin]; rfl, HB.out⟩
      · have hdh := decode_high s i hi (by omega)
        have hdl := decode_le s i
        have hcv := decode_cover s i hi (by rw [hc1]; omega)
        have hna := noAny_cover s i hi (by rw [hc1]; omega) HN.out
        have hsz := hcv.1
        have HA := Aside0.mk hna
        have HI := Aside0.mk hI3
        have HB := Aside0.mk hB3
        clear hI3 hB3 hI hB hc1 hna hcv ha
        generalize setBlock wr w.heap.size (.stringIter s (i + (Utf8.decode s i).2)) = w3 at hnx HI HB
        generalize Utf8.decode s i = dd at *
        obtain ⟨rn, wd⟩ := dd
        simp only at hnx hdh hdl hsz HI HB HA
        go_wp2_with fail
        refine (indexRune_high (rn : Int) (by omega) (by omega) _).mono ?_
        rintro e w4 ⟨rfl, hb4⟩
        have HI4 := Aside0.mk (blk_below HI.out hb4)
        have HB4 := Aside0.mk (below_then HB.out HB.out.size hb4)
        clear hb4 HI HB
        go_wp2_with fail
        go_roundg (s.size - (i + wd))
        case measure => omega
        case rel => exact ⟨i + wd, by omega, HA.out, HI4.out, HB4.out⟩

theorem indexAny_calls (s : ByteArray) (w : World) (hs : s.size ≤ 20000) :
    Calls Tryz.prog 102 #[.string s, .string ⟨#[34, 10]⟩] w (IntBelow (Lib.indexAny s.data.toList [34, 10]) w) := by
  by_cases h8 : s.size ≤ 8
  · exact indexAny_short s w h8
  · refine (Tryz.strings_IndexAny_long (fun w => by kernel_rfl) s ⟨#[34, 10]⟩ w (by decide) (by omega) (by omega) (by decide) (fun j b hb => by match j, hb with | 0, hb => (cases hb; decide) | 1, hb => (cases hb; decide))).mono ?_
    rintro e w' ⟨rfl, rfl⟩
    exact ⟨rfl, below_alloc (below_alloc (Below.refl _ _) _) _⟩
end Go.Proofs.YtenecpmonodjaaaGreatDoor.PAll
