/- expr.infix, functions, symbol, walked by hand. -/
import Derived.Test.YtenecpmonodjaaaGreatDoorHLexer
import Derived.Test.YtenecpmonodjaaaGreatDoorBase
import Derived.Maps.Range
namespace Go.Proofs.YtenecpmonodjaaaGreatDoor.PAll
open Go.RowKit Go.Proofs.YtenecpmonodjaaaGreatDoorW.PrintWords Go.Proofs.YtenecpmonodjaaaGreatDoorW.PrintLast Go.Proofs.YtenecpmonodjaaaGreatDoorW.PrintMore
open Go.Proofs.YtenecpmonodjaaaGreatDoor.Obs
set_option linter.unusedVariables false
set_option linter.unusedSimpArgs false

def infixL : List (List UInt8 × Int) := [([60], 10), ([61, 61], 11), ([43], 3), ([45], 4), ([42], 5), ([47], 6)]
def functionsL : List (List UInt8 × Int) := [([109, 105, 110], 7), ([109, 97, 120], 8), ([105, 102], 9)]
def MapPost (l : List (List UInt8 × Int)) (w : World) (e : Ending) (w' : World) : Prop := e = .returned (.map (some w.heap.size)) ∧ MapIs w' w.heap.size l ∧ Below w.heap.size w w'

set_option maxHeartbeats 4000000 in
set_option maxRecDepth 100000 in
theorem functions_calls (w : World) : Calls Tryz.prog 79 #[] w (MapPost functionsL w) := by
  have hmm := @run_makeMap Tryz.prog
  have h0 := MapIs.made w
  have hb0 : Below w.heap.size w (w.alloc (.map #[] 0)) := below_alloc (Below.refl _ _) _
  go_enter Tryz.func79, Tryz.ntmps79
  go_wp2_with (first | (refine wpList_insert_new h2 Tryz.underlying51 Tryz.underlying9 rfl _ _ _ rfl [105, 102] 9 rfl rfl rfl (by decide) ?_; intro w3 h3 g3) | (refine wpList_insert_new h1 Tryz.underlying51 Tryz.underlying9 rfl _ _ _ rfl [109, 97, 120] 8 rfl rfl rfl (by decide) ?_; intro w2 h2 g2) | (refine wpList_insert_new h0 Tryz.underlying51 Tryz.underlying9 rfl _ _ _ rfl [109, 105, 110] 7 rfl rfl rfl (by decide) ?_; intro w1 h1 g1))
  have hb1 := below_map hb0 g1 (Nat.le_refl _)
  have hb2 := below_map hb1 g2 (Nat.le_refl _)
  have hb3 := below_map hb2 g3 (Nat.le_refl _)
  go_ret
  exact ⟨rfl, h3, hb3⟩

set_option maxHeartbeats 4000000 in
set_option maxRecDepth 100000 in
theorem infix_calls (w : World) : Calls Tryz.prog 78 #[] w (MapPost infixL w) := by
  have hmm := @run_makeMap Tryz.prog
  have h0 := MapIs.made w
  have hb0 : Below w.heap.size w (w.alloc (.map #[] 0)) := below_alloc (Below.refl _ _) _
  go_enter Tryz.func78, Tryz.ntmps78
  go_wp2_with (first | (refine wpList_insert_new h5 Tryz.underlying51 Tryz.underlying9 rfl _ _ _ rfl [47] 6 rfl rfl rfl (by decide) ?_; intro w6 h6 g6) | (refine wpList_insert_new h4 Tryz.underlying51 Tryz.underlying9 rfl _ _ _ rfl [42] 5 rfl rfl rfl (by decide) ?_; intro w5 h5 g5) | (refine wpList_insert_new h3 Tryz.underlying51 Tryz.underlying9 rfl _ _ _ rfl [45] 4 rfl rfl rfl (by decide) ?_; intro w4 h4 g4) | (refine wpList_insert_new h2 Tryz.underlying51 Tryz.underlying9 rfl _ _ _ rfl [43] 3 rfl rfl rfl (by decide) ?_; intro w3 h3 g3) | (refine wpList_insert_new h1 Tryz.underlying51 Tryz.underlying9 rfl _ _ _ rfl [61, 61] 11 rfl rfl rfl (by decide) ?_; intro w2 h2 g2) | (refine wpList_insert_new h0 Tryz.underlying51 Tryz.underlying9 rfl _ _ _ rfl [60] 10 rfl rfl rfl (by decide) ?_; intro w1 h1 g1))
  have hb1 := below_map hb0 g1 (Nat.le_refl _)
  have hb2 := below_map hb1 g2 (Nat.le_refl _)
  have hb3 := below_map hb2 g3 (Nat.le_refl _)
  have hb4 := below_map hb3 g4 (Nat.le_refl _)
  have hb5 := below_map hb4 g5 (Nat.le_refl _)
  have hb6 := below_map hb5 g6 (Nat.le_refl _)
  go_ret
  exact ⟨rfl, h6, hb6⟩

/-- What 'symbol' hands back. -/
def SymPost (t : List UInt8) (w : World) (e : Ending) (w' : World) : Prop := e = .returned (.string ⟨t.toArray⟩) ∧ Below w.heap.size w w'
theorem MapIs.pair {es : Array MapEntry} {l : List (List UInt8 × Int)} (h : es.toList.map (fun e => (e.key, e.val)) = l.map pairV) {x : MapEntry} (hx : x ∈ es.toList) : ∃ p ∈ l, x.key = .string ⟨p.1.toArray⟩ ∧ x.val = .int .i64 p.2 := by
  have : (x.key, x.val) ∈ l.map pairV := by rw [← h]; exact List.mem_map.2 ⟨x, hx, rfl⟩
  obtain ⟨p, hp, hq⟩ := List.mem_map.1 this
  simp only [pairV, Prod.mk.injEq] at hq
  exact ⟨p, hp, hq.1.symm, hq.2.symm⟩
theorem MapIs.entry {es : Array MapEntry} {l : List (List UInt8 × Int)} (h : es.toList.map (fun e => (e.key, e.val)) = l.map pairV) {p : List UInt8 × Int} (hp : p ∈ l) : ∃ x ∈ es.toList, x.val = .int .i64 p.2 := by
  have : pairV p ∈ es.toList.map (fun e => (e.key, e.val)) := by rw [h]; exact List.mem_map.2 ⟨p, hp, rfl⟩
  obtain ⟨x, hx, hq⟩ := List.mem_map.1 this
  exact ⟨x, hx, congrArg Prod.snd hq⟩
theorem nameM_none {op : Int} : ∀ {l : List (List UInt8 × Int)}, (∀ p ∈ l, p.2 ≠ op) → nameM l op = []
  | [], _ => rfl
  | p :: r, h => by unfold nameM; rw [if_neg (h p (.head _))]; exact nameM_none (fun q hq => h q (.tail _ hq))
theorem nameM_some : ∀ {l : List (List UInt8 × Int)}, (l.map (·.2)).Nodup → ∀ {p : List UInt8 × Int}, p ∈ l → nameM l p.2 = p.1
  | [], _, _, h => by simp at h
  | q :: r, hn, p, h => by
    rw [List.map_cons, List.nodup_cons] at hn
    unfold nameM
    rcases List.mem_cons.1 h with rfl | h1
    · rw [if_pos rfl]
    · rw [if_neg (fun e => hn.1 (by rw [e]; exact List.mem_map.2 ⟨p, h1, rfl⟩))]
      exact nameM_some hn.2 h1

set_option maxHeartbeats 4000000 in
set_option maxRecDepth 100000 in
theorem symbol_calls (bm : Nat) (l : List (List UInt8 × Int)) (op : Int) (w : World) (hl : (l.map (·.2)).Nodup) (h : MapIs w bm l) :
    Calls Tryz.prog 77 #[.map (some bm), .int .i64 op] w (SymPost (nameM l op) w) := by
  obtain ⟨es, clock, hb, hst, hes⟩ := h
  have hlt : bm < w.heap.size := blk_lt hb
  have hrg := run_range_map (P := Tryz.prog) w 51 9 3 bm es clock Tryz.underlying51 hb
  go_enter Tryz.func77, Tryz.ntmps77
  go_wp2
  have hr0 : (w.alloc (.mapIter (some bm) clock #[] clock)).heap[w.heap.size]? = some (.mapIter (some bm) clock #[] clock) := heap_alloc_new _ _
  have hb0 : (w.alloc (.mapIter (some bm) clock #[] clock)).heap[bm]? = some (.map es clock) := (heap_alloc_old w _ hlt).trans hb
  have hB0 : Below w.heap.size w (w.alloc (.mapIter (some bm) clock #[] clock)) := below_alloc (Below.refl _ _) _
  generalize w.alloc (.mapIter (some bm) clock #[] clock) = w0 at *
  go_loopw [5, 6] (fun _ _ wr => ∃ seen : Array Nat, wr.heap[w.heap.size]? = some (.mapIter (some bm) clock seen clock) ∧ wr.heap[bm]? = some (.map es clock) ∧ Aside0 (Below w.heap.size w wr) ∧ Aside0 (∀ x ∈ es.toList, seen.contains x.born = true → x.val ≠ .int .i64 op)) (fun _ _ wr => wr.rangeLeft bm w.heap.size)
  case atStart => exact ⟨#[], hr0, hb0, ⟨hB0⟩, ⟨fun x _ h => by simp at h⟩⟩
  case round =>
    obtain ⟨seen, hr, hbr, HB, HN⟩ := hrel
    have hml : wr.rangeLeft bm w.heap.size = (leftOf es seen).size := by simp only [World.rangeLeft, hbr, hr]
    rcases run_next_at (P := Tryz.prog) wr 0 w.heap.size bm clock clock seen es clock hr hbr hst.1 (Nat.le_refl _) with ⟨h0, hrun⟩ | ⟨e, he, w1, hal, hrun⟩
    · have hnx : ∀ ty, (Instr.next (.pointer (some ⟨w.heap.size, 0, none⟩)) false ty).run Tryz.prog wr = _ := fun _ => hrun
      go_wp2
      go_ret
      refine ⟨?_, HB.out⟩
      rw [nameM_none (fun p hp hq => by
        obtain ⟨x, hx, hv⟩ := MapIs.entry hes hp
        exact HN.out x hx (all_seen es seen h0 x hx) (by rw [hv, hq]))]
      rfl
    · obtain ⟨hem, hns⟩ := mem_left he
      obtain ⟨p, hp, hk, hv⟩ := MapIs.pair hes hem
      have hr1 : w1.heap[w.heap.size]? = some (.mapIter (some bm) clock seen clock) := by rcases hal with rfl | rfl <;> exact hr
      have hb1 : w1.heap[bm]? = some (.map es clock) := by rcases hal with rfl | rfl <;> exact hbr
      have hB1 : Below w.heap.size w w1 := by
        rcases hal with rfl | rfl
        · exact HB.out
        · exact HB.out.drew
      have hset := Go.MapKept.heap_set (o' := .mapIter (some bm) clock (seen.push e.born) clock) hr1
      have hr5 : (Go.ChangeMaps.setBlock w1 w.heap.size (.mapIter (some bm) clock (seen.push e.born) clock)).heap[w.heap.size]? = some (.mapIter (some bm) clock (seen.push e.born) clock) := hset.1
      have hb5 : (Go.ChangeMaps.setBlock w1 w.heap.size (.mapIter (some bm) clock (seen.push e.born) clock)).heap[bm]? = some (.map es clock) := (hset.2 bm (by omega)).trans hb1
      have hB5 : Below w.heap.size w (Go.ChangeMaps.setBlock w1 w.heap.size (.mapIter (some bm) clock (seen.push e.born) clock)) :=
        hB1.trans ⟨rfl, rfl, rfl, by simp [Go.ChangeMaps.setBlock], fun k hk => hset.2 k (by omega)⟩
      generalize Go.ChangeMaps.setBlock w1 w.heap.size (.mapIter (some bm) clock (seen.push e.born) clock) = w5 at hr5 hb5 hB5 hrun
      have hen := run_entry_at (P := Tryz.prog) w5 w.heap.size bm clock seen es clock e hr5 hb5 hem hst.2.1
      rw [hk, hv] at hrun hen
      have hnx : ∀ ty, (Instr.next (.pointer (some ⟨w.heap.size, 0, none⟩)) false ty).run Tryz.prog wr = _ := fun _ => hrun
      have hm5 : w5.rangeLeft bm w.heap.size = (leftOf es (seen.push e.born)).size := by simp only [World.rangeLeft, hb5, hr5]
      clear hrun hset hr1 hb1 hB1 hal
      by_cases hop : p.2 = op
      · have hopb : (p.2 == op) = true := beq_iff_eq.2 hop
        go_wp2
        go_ret
        exact ⟨by rw [← hop, nameM_some hl hp]; rfl, hB5⟩
      · have hopb : (p.2 == op) = false := beq_eq_false_iff_ne.2 hop
        go_wp2
        go_roundw
        case rel =>
          refine ⟨seen.push e.born, hr5, hb5, ⟨hB5⟩, ⟨fun x hx hc => ?_⟩⟩
          rw [contains_push] at hc
          rcases Bool.or_eq_true _ _ ▸ hc with h1 | h1
          · exact HN.out x hx h1
          · have : x = e := born_inj hst.2.1 hx hem (beq_iff_eq.1 h1)
            subst this
            rw [hv]
            exact fun h => hop (by injection h)
        case measure =>
          rw [hm5, hml]
          exact left_shrinks es seen e he
end Go.Proofs.YtenecpmonodjaaaGreatDoor.PAll

/- expr.operands, identifier, walked by hand. -/
namespace Go.Proofs.YtenecpmonodjaaaGreatDoor.PAll
open Go.RowKit Go.Proofs.YtenecpmonodjaaaGreatDoorW.PrintWords Go.Proofs.YtenecpmonodjaaaGreatDoorW.PrintLast Go.Proofs.YtenecpmonodjaaaGreatDoorW.PrintMore
open Go.Proofs.YtenecpmonodjaaaGreatDoor.Obs
set_option linter.unusedVariables false
set_option linter.unusedSimpArgs false

def opsZ (op : Int) : Int := if op = 1 ∨ op = 2 then 0 else if op = 12 then 1 else if op = 9 then 3 else if nameM infixL op ++ nameM functionsL op ≠ [] then 2 else -1
def OpsP (r : Int) (w : World) (e : Ending) (w' : World) : Prop := e = .returned (.int .i64 r) ∧ Below w.heap.size w w'
theorem infix_nodup : (infixL.map (·.2)).Nodup := by decide
theorem functions_nodup : (functionsL.map (·.2)).Nodup := by decide

theorem isEmpty_app (s t : List UInt8) : ((⟨s.toArray⟩ : ByteArray) ++ ⟨t.toArray⟩).toList.isEmpty = (s ++ t).isEmpty := by
  have h := toList_nil_iff_emptyBytes ((⟨s.toArray⟩ : ByteArray) ++ ⟨t.toArray⟩)
  have hd : ((⟨s.toArray⟩ : ByteArray) ++ ⟨t.toArray⟩) = ByteArray.empty ↔ s ++ t = [] := by
    constructor
    · intro e
      have e' := congrArg (fun b : ByteArray => b.data.toList) e
      simpa [ByteArray.data_append] using e'
    · intro e
      have : s = [] ∧ t = [] := by simpa using e
      rw [this.1, this.2]; rfl
  rw [Bool.eq_iff_iff, List.isEmpty_iff, List.isEmpty_iff, h, hd]
theorem infix_len (op : Int) : (nameM infixL op).length ≤ 2 := by unfold infixL; simp only [nameM]; (repeat' split) <;> decide
theorem functions_len (op : Int) : (nameM functionsL op).length ≤ 3 := by unfold functionsL; simp only [nameM]; (repeat' split) <;> decide

set_option maxHeartbeats 4000000 in
set_option maxRecDepth 100000 in
theorem operands_calls (op : Int) (w : World) : Calls Tryz.prog 61 #[.int .i64 op] w (OpsP (opsZ op) w) := by
  go_enter Tryz.func61, Tryz.ntmps61
  by_cases h1 : op = 1
  · subst h1
    go_wp2
    go_ret
    exact ⟨rfl, Below.refl _ _⟩
  by_cases h2 : op = 2
  · subst h2
    go_wp2
    go_ret
    exact ⟨rfl, Below.refl _ _⟩
  by_cases h3 : op = 12
  · subst h3
    go_wp2
    go_ret
    exact ⟨rfl, Below.refl _ _⟩
  by_cases h4 : op = 9
  · subst h4
    go_wp2
    go_ret
    exact ⟨rfl, Below.refl _ _⟩
  have b1 : (op == 1) = false := beq_eq_false_iff_ne.2 h1
  have b2 : (op == 2) = false := beq_eq_false_iff_ne.2 h2
  have b3 : (op == 12) = false := beq_eq_false_iff_ne.2 h3
  have b4 : (op == 9) = false := beq_eq_false_iff_ne.2 h4
  have HZ := Lib.hid (show opsZ op = if nameM infixL op ++ nameM functionsL op ≠ [] then 2 else -1 by unfold opsZ; rw [if_neg (by omega), if_neg h3, if_neg h4])
  clear h1 h2 h3 h4
  go_wp2_with fail
  refine (infix_calls w).mono ?_
  rintro e w1 ⟨rfl, hm1, hb1⟩
  go_wp2_with fail
  refine (symbol_calls _ _ op w1 infix_nodup hm1).mono ?_
  rintro e w2 ⟨rfl, hb2⟩
  replace hb2 := below_then hb1 hb1.size hb2
  clear hm1 hb1
  go_wp2_with fail
  refine (functions_calls w2).mono ?_
  rintro e w3 ⟨rfl, hm3, hb3⟩
  go_wp2_with fail
  refine (symbol_calls _ _ op w3 functions_nodup hm3).mono ?_
  rintro e w4 ⟨rfl, hb4⟩
  replace hb4 := below_then (below_then hb2 hb2.size hb3) (below_then hb2 hb2.size hb3).size hb4
  clear hm3 hb3 hb2
  have hl1 := infix_len op
  have hl2 := functions_len op
  generalize nameM infixL op = s at *
  generalize nameM functionsL op = t at *
  have hlen : ¬ (9223372036854775807 < s.length + t.length) := by omega
  have hem := isEmpty_app s t
  by_cases hst : s ++ t = []
  · rw [hst] at hem
    have hem' : ((⟨s.toArray⟩ : ByteArray) ++ ⟨t.toArray⟩).toList.isEmpty = true := hem
    have HS := Lib.hid hst
    clear hst hem
    go_wp2
    go_ret
    exact ⟨by rw [HZ.out, if_neg (by rw [HS.out]; simp)]; rfl, hb4⟩
  · have hem' : ((⟨s.toArray⟩ : ByteArray) ++ ⟨t.toArray⟩).toList.isEmpty = false := by rw [hem]; cases hq : s ++ t with
      | nil => exact absurd hq hst
      | cons a b => rfl
    have HS := Lib.hid hst
    clear hst hem
    go_wp2
    go_ret
    exact ⟨by rw [HZ.out, if_pos HS.out]; rfl, hb4⟩

def expr_operands.f (a0 : Int) : Option Int := some (opsZ a0)
theorem expr_operands.calls (a0 : Int) (r : Int) (w : World) (h : expr_operands.f a0 = some r) :
    Calls Tryz.prog 61 #[.int .i64 a0] w fun e w' => e = .returned (.int .i64 r) ∧ Below w.heap.size w w' := by
  obtain rfl : opsZ a0 = r := by simpa [expr_operands.f] using h
  exact operands_calls a0 w

theorem tok_first {w : World} {A : Option Addr} {n : Nat} {x : Tok} {xs : List Tok} (h : Kd.C k86 w A n ((x :: xs).map tokS)) (hn : 0 < n) :
    ∃ ad, A = some ad ∧ w.cell? ad = some (.int .i64 x.k) ∧ w.cell? ⟨ad.block, ad.off + 1, none⟩ = some (.string ⟨x.t.toArray⟩) ∧ w.cell? ⟨ad.block, ad.off + 2, none⟩ = some (.int .i64 x.n) ∧ w.cell? ⟨ad.block, ad.off + 3, none⟩ = some (.int .i64 x.a) := by
  obtain ⟨ad, e, h0, h1, h2, h3⟩ := at_T86 h 0 (by omega) (by omega)
  exact ⟨ad, e, h0, h1, h2, h3⟩
theorem zero_int (w : World) : (zeroValue 3).run Tryz.prog w = .ok (.int .i64 0) w := by kernel_rfl
theorem functions_pos {s : List UInt8} {n : Int} (h : lookM functionsL s = some n) : 0 < n := by
  have key : ∀ l : List (List UInt8 × Int), (∀ p ∈ l, 0 < p.2) → lookM l s = some n → 0 < n := by
    intro l
    induction l with
    | nil => intro _ h; simp [lookM] at h
    | cons p r ih =>
      intro hp h
      unfold lookM at h
      split at h
      · injection h with h; rw [← h]; exact hp p (.head _)
      · exact ih (fun q hq => hp q (.tail _ hq)) h
  exact key functionsL (by decide) h
/-- Is the text a name other than that of a function? -/
def identOk (s : List UInt8) : LexR → Bool
  | .ok [t] => t.k == 1 && (t.t == s) && (lookM functionsL s).isNone
  | _ => false
def identL (s : List UInt8) : Bool := identOk s (lex s)
def IdentP (r : Bool) (w : World) (e : Ending) (w' : World) : Prop := e = .returned (.bool r) ∧ Below w.heap.size w w'

theorem ident_cases (s : List UInt8) : (∃ t : Tok, (lexR (lex s)).1 = [tokS t] ∧ (lexR (lex s)).2.1 = 0 ∧ identL s = (t.k == 1 && (t.t == s) && (lookM functionsL s).isNone)) ∨
    (¬ ((lexR (lex s)).2.1 = 0 ∧ (lexR (lex s)).1.length = 1) ∧ identL s = false) := by
  unfold identL
  cases lex s with
  | bad e a => right; exact ⟨by simp [lexR], rfl⟩
  | ok l =>
    match l with
    | [] => right; exact ⟨by simp [lexR], rfl⟩
    | _ :: _ :: _ => right; exact ⟨by simp [lexR], rfl⟩
    | [t] => left; exact ⟨t, rfl, rfl, rfl⟩

set_option maxHeartbeats 4000000 in
set_option maxRecDepth 100000 in
theorem identifier_calls (s : ByteArray) (w : World) : Calls Tryz.prog 62 #[.string s] w (IdentP (identL s.data.toList) w) := by
  go_enter Tryz.func62, Tryz.ntmps62
  go_wp2_with fail
  refine (lexer_Lex.calls s (lexR (lex s.data.toList)).1 (lexR (lex s.data.toList)).2.1 (lexR (lex s.data.toList)).2.2 w rfl).mono ?_
  rintro e w1 ⟨v, rfl, hr1, hb1⟩
  have HC := ident_cases s.data.toList
  generalize lexR (lex s.data.toList) = R at *
  obtain ⟨l0, er, a0⟩ := R
  simp only at hr1 HC ⊢
  obtain ⟨A, c, rfl, hc, hC⟩ := Kd.R_reads hr1
  clear hr1
  rcases HC with ⟨t, hl, he, hI⟩ | ⟨hq, hI⟩
  · subst hl
    subst he
    have HI := Lib.hid hI
    clear hI
    obtain ⟨ad, rfl, c0, c1, c2, c3⟩ := tok_first (x := t) (xs := []) hC (by simp)
    by_cases hk : t.k = 1
    · by_cases ht : t.t = s.toList
      · have HJ := Lib.hid (show identL s.data.toList = (lookM functionsL s.data.toList).isNone by rw [HI.out]; simp [hk, ht, ByteArray.toList_eq])
        clear HI
        go_wp2_with fail
        refine (functions_calls w1).mono ?_
        rintro e w2 ⟨rfl, hm2, hb2⟩
        have hlook := hm2.look (P := Tryz.prog) Tryz.underlying51 Tryz.underlying9 (zero_int w2) s
        replace hb2 := below_then hb1 hb1.size hb2
        clear hm2 hb1
        cases hM : lookM functionsL s.data.toList with
        | none =>
          rw [hM] at hlook
          have hlook' : (Instr.lookup 51 (.map (some w1.heap.size)) (.string s) false).run Tryz.prog w2 = .ok (.int .i64 0) w2 := hlook
          have HM := Lib.hid hM
          clear hM hlook
          go_wp2
          go_ret
          exact ⟨by rw [HJ.out, HM.out]; rfl, hb2⟩
        | some n =>
          rw [hM] at hlook
          have hn := functions_pos hM
          have hnb : (n == 0) = false := beq_eq_false_iff_ne.2 (by omega)
          have hlook' : (Instr.lookup 51 (.map (some w1.heap.size)) (.string s) false).run Tryz.prog w2 = .ok (.int .i64 n) w2 := hlook
          have HM := Lib.hid hM
          clear hM hlook
          go_wp2
          go_ret
          exact ⟨by rw [HJ.out, HM.out]; rfl, hb2⟩
      · go_wp2
        go_ret
        exact ⟨by rw [HI.out, show (t.t == s.data.toList) = false from beq_eq_false_iff_ne.2 (by rw [← ByteArray.toList_eq]; exact ht), Bool.and_false, Bool.false_and]; rfl, hb1⟩
    · have hkb : (t.k == 1) = false := beq_eq_false_iff_ne.2 hk
      go_wp2
      go_ret
      exact ⟨by rw [HI.out, hkb, Bool.false_and, Bool.false_and]; rfl, hb1⟩
  · have HJ := Lib.hid hI
    clear hI hC hc
    generalize l0.length = n at *
    by_cases he : er = 0
    · subst he
      have hn : ((n : Int) == 1) = false := beq_eq_false_iff_ne.2 (by intro h; exact hq ⟨rfl, by omega⟩)
      clear hq
      go_wp2
      go_ret
      exact ⟨by rw [HJ.out]; rfl, hb1⟩
    · have heb : (er == 0) = false := beq_eq_false_iff_ne.2 he
      clear hq
      go_wp2
      go_ret
      exact ⟨by rw [HJ.out]; rfl, hb1⟩

def expr_identifier.f (a0 : ByteArray) : Option Bool := some (identL a0.data.toList)
theorem expr_identifier.calls (a0 : ByteArray) (r : Bool) (w : World) (h : expr_identifier.f a0 = some r) :
    Calls Tryz.prog 62 #[.string a0] w fun e w' => e = .returned (.bool r) ∧ Below w.heap.size w w' := by
  obtain rfl : identL a0.data.toList = r := by simpa [expr_identifier.f] using h
  exact identifier_calls a0 w
end Go.Proofs.YtenecpmonodjaaaGreatDoor.PAll
