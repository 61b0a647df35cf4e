/- A connection: what its functions' callees answer, as tables; slices.Clone of options. No conditions. -/
import Derived.Test.YtodfcalaggfldaaPaA
import Derived.Test.YtodfcalaggfldaaLsA
import Derived.Test.YtodfcalaggfldaaSpan2
import Derived.Test.YtodfcalaggfldaaBackoff
import Derived.Test.YtodfcalaggfldaaCan
namespace Go.Proofs.Ytodfcalaggfldaa
set_option linter.unusedVariables false
set_option linter.unusedSimpArgs false
open Go.RowKit Sym Go.ChangeShapes Go.WideShapes Go.ChangeMaps

/-! ### numbers of 24 bits -/
def shortN (n : Int) : Int := n % 16777216
def longN (near s : Int) : Int := Circ.add near (if 8388608 < (shortN s - shortN near) % 16777216 then (shortN s - shortN near) % 16777216 - 16777216 else (shortN s - shortN near) % 16777216)
theorem and_short (n : Int) : bits .and .i64 n 16777215 = n % 16777216 := by
  show IntKind.i64.wrap ((BitVec.ofInt 64 n &&& BitVec.ofInt 64 16777215).toNat : Int) = _
  rw [BitVec.toNat_and, show (BitVec.ofInt 64 16777215).toNat = 2 ^ 24 - 1 from by decide, Nat.and_two_pow_sub_one_eq_mod, BitVec.toNat_ofInt, IntKind.wrap_i64]
  omega
def tCOf : List Value → Option (List Prop × Value) | [.int .i64 n] => some ([], .int .i64 (Circ.of n)) | _ => none
def tCAdd : List Value → Option (List Prop × Value) | [.int .i64 a, .int .i64 n] => some ([], .int .i64 (Circ.add a n)) | _ => none
def tCWithin : List Value → Option (List Prop × Value) | [.int .i64 n, .int .i64 a, .int .i64 b] => some ([], .bool (Circ.within n a b)) | _ => none
def tShort : List Value → Option (List Prop × Value) | [.int .i64 n] => some ([], .int .i64 (shortN n)) | _ => none
def tLong : List Value → Option (List Prop × Value) | [.int .i64 a, .int .i64 n] => some ([], .int .i64 (longN a n)) | _ => none
theorem stretch_Short (n : Int) (w : World) : Calls Try.prog 80 #[.int .i64 n] w fun e w' => e = .returned (.int .i64 (shortN n)) ∧ w = w' := by
  go_enter Try.func80, Try.ntmps80
  go_wp2
  go_ret
  refine ⟨?_, rfl⟩
  rw [and_short]
  rfl
theorem short_lo (n : Int) : 0 ≤ shortN n := by unfold shortN; omega
theorem short_hi (n : Int) : shortN n < 16777216 := by unfold shortN; omega
theorem stretch_Long (a n : Int) (w : World) : Calls Try.prog 73 #[.int .i64 a, .int .i64 n] w fun e w' => e = .returned (.int .i64 (longN a n)) ∧ Below w.heap.size w w' := by
  go_enter Try.func73, Try.ntmps73
  go_wp2_with (first | (go_at_call 80; refine (stretch_Short _ _).mono ?_; rintro e w1 ⟨rfl, rfl⟩) | (go_at_call 28; refine (circ_add _ _ _).mono ?_; rintro e w1 ⟨rfl, rfl⟩))
  all_goals
    rename_i hd
    go_ret
    refine ⟨?_, Below.refl _ _⟩
    have h1 := short_lo n
    have h2 := short_hi n
    have h3 := short_lo a
    have h4 := short_hi a
    have e1 : wrap64 (shortN n - shortN a) = shortN n - shortN a := by unfold wrap64; omega
    rw [e1] at hd ⊢
    have h5 := short_lo (shortN n - shortN a)
    have h6 := short_hi (shortN n - shortN a)
    unfold longN
    have e2 : (shortN n - shortN a) % 16777216 = shortN (shortN n - shortN a) := rfl
    rw [e2]
  · rw [if_pos hd, show wrap64 (shortN (shortN n - shortN a) - 16777216) = shortN (shortN n - shortN a) - 16777216 by unfold wrap64; omega]; rfl
  · rw [if_neg (by omega)]; rfl
/-! ### marks -/
def tBegin : List Value → Option (List Prop × Value) | [.int .i64 a, .int .i64 b, .int .i64 c, .int .i64 d] => some ([], .agg #[.int .i64 (Circ.of a), .int .i64 (Circ.of c), .int .i64 (Circ.of b), .int .i64 (Circ.of d), .int .i64 (Circ.of a)]) | _ => none
def tValid : List Value → Option (List Prop × Value) | [.agg ⟨[.int .i64 a, .int .i64 b, .int .i64 c, .int .i64 d, .int .i64 e]⟩, .int .i64 k, .int .i64 s, .int .i64 x] => some ([], .int .i64 (Span.valid ⟨a, b, c, d, e⟩ k s x)) | _ => none
def garOf (k a g : Int) : Int := if Head.acks k = true then Circ.later g a else g
def tCame : List Value → Option (List Prop × Value) | [.agg ⟨[.int .i64 a, .int .i64 b, .int .i64 c, .int .i64 d, .int .i64 e]⟩, .int .i64 k, .int .i64 s, .int .i64 x] => some ([], .agg #[.int .i64 a, .int .i64 b, .int .i64 c, .int .i64 (Circ.later d s), .int .i64 (garOf k x e)]) | _ => none
def tSent : List Value → Option (List Prop × Value) | [.agg ⟨[.int .i64 a, .int .i64 b, .int .i64 c, .int .i64 d, .int .i64 e]⟩] => some ([], .tuple #[.agg #[.int .i64 a, .int .i64 b, .int .i64 (Circ.add c 1), .int .i64 d, .int .i64 e], .int .i64 (Circ.add c 1)]) | _ => none
/-! ### what is said again -/
def agWait (a b c : Int) : Int := (tick (a, b, c)).1.1
def agLeft (a b c : Int) : Int := (tick (a, b, c)).1.2.1
def agTries (a b c : Int) : Int := (tick (a, b, c)).1.2.2
def agSay (a b c : Int) : Bool := (tick (a, b, c)).2.1
def agOver (a b c : Int) : Bool := (tick (a, b, c)).2.2
def tBoff : List Value → Option (List Prop × Value) | [.int .i64 n] => some ([n = 8], .agg #[.int .i64 8, .int .i64 8, .int .i64 0]) | _ => none
def tTick : List Value → Option (List Prop × Value) | [.agg ⟨[.int .i64 a, .int .i64 b, .int .i64 c]⟩] => some ([], .tuple #[.agg #[.int .i64 (agWait a b c), .int .i64 (agLeft a b c), .int .i64 (agTries a b c)], .bool (agSay a b c), .bool (agOver a b c)]) | _ => none
theorem boff_tab (n : Int) (h : n = 8) (w : World) : Calls Try.prog 71 #[.int .i64 n] w fun e w' => e = .returned (.agg #[.int .i64 8, .int .i64 8, .int .i64 0]) ∧ Below w.heap.size w w' := by
  subst h
  exact begin_any 8 w
def SCn0  : Tab := addS 70 tCOf <| addS 28 tCAdd <| addS 72 tCWithin <| addS 74 tHeadAcks <| addS 80 tShort <| addS 73 tLong <| addS 27 tBegin <| addS 75 tValid <| addS 34 tCame <| addS 78 tSent <| addS 71 tBoff <| addS 42 tTick <| noS
theorem SCn0_ok : TabOk Try.prog (SCn0) := by
  refine addS_ok (addS_ok (addS_ok (addS_ok (addS_ok (addS_ok (addS_ok (addS_ok (addS_ok (addS_ok (addS_ok (addS_ok (noS_ok) (by kernel_rfl) ?_) (by kernel_rfl) ?_) (by kernel_rfl) ?_) (by kernel_rfl) ?_) (by kernel_rfl) ?_) (by kernel_rfl) ?_) (by kernel_rfl) ?_) (by kernel_rfl) ?_) (by kernel_rfl) ?_) (by kernel_rfl) ?_) (by kernel_rfl) ?_) (by kernel_rfl) ?_
  · (intro xs p v h hp w; unfold tTick at h; (split at h) <;> first | (cases h; done) | (simp only [Option.some.injEq, Prod.mk.injEq] at h; obtain ⟨rfl, rfl⟩ := h; exact tick_any _ _ _ w))
  · (intro xs p v h hp w; unfold tBoff at h; (split at h) <;> first | (cases h; done) | (simp only [Option.some.injEq, Prod.mk.injEq] at h; obtain ⟨rfl, rfl⟩ := h; exact boff_tab _ (hp _ (List.mem_cons_self ..)) w))
  · (intro xs p v h hp w; unfold tSent at h; (split at h) <;> first | (cases h; done) | (simp only [Option.some.injEq, Prod.mk.injEq] at h; obtain ⟨rfl, rfl⟩ := h; exact span_sent ⟨_, _, _, _, _⟩ w))
  · (intro xs p v h hp w; unfold tCame at h; (split at h) <;> first | (cases h; done) | (simp only [Option.some.injEq, Prod.mk.injEq] at h; obtain ⟨rfl, rfl⟩ := h; exact span_came ⟨_, _, _, _, _⟩ _ _ _ w))
  · (intro xs p v h hp w; unfold tValid at h; (split at h) <;> first | (cases h; done) | (simp only [Option.some.injEq, Prod.mk.injEq] at h; obtain ⟨rfl, rfl⟩ := h; exact span_valid ⟨_, _, _, _, _⟩ _ _ _ w))
  · (intro xs p v h hp w; unfold tBegin at h; (split at h) <;> first | (cases h; done) | (simp only [Option.some.injEq, Prod.mk.injEq] at h; obtain ⟨rfl, rfl⟩ := h; exact span_begin _ _ _ _ w))
  · (intro xs p v h hp w; unfold tLong at h; (split at h) <;> first | (cases h; done) | (simp only [Option.some.injEq, Prod.mk.injEq] at h; obtain ⟨rfl, rfl⟩ := h; exact stretch_Long _ _ w))
  · (intro xs p v h hp w; unfold tShort at h; (split at h) <;> first | (cases h; done) | (simp only [Option.some.injEq, Prod.mk.injEq] at h; obtain ⟨rfl, rfl⟩ := h; exact of_same (stretch_Short _ w)))
  · (intro xs p v h hp w; unfold tHeadAcks at h; (split at h) <;> first | (cases h; done) | (simp only [Option.some.injEq, Prod.mk.injEq] at h; obtain ⟨rfl, rfl⟩ := h; exact head_acks _ w))
  · (intro xs p v h hp w; unfold tCWithin at h; (split at h) <;> first | (cases h; done) | (simp only [Option.some.injEq, Prod.mk.injEq] at h; obtain ⟨rfl, rfl⟩ := h; exact of_same (circ_within _ _ _ w)))
  · (intro xs p v h hp w; unfold tCAdd at h; (split at h) <;> first | (cases h; done) | (simp only [Option.some.injEq, Prod.mk.injEq] at h; obtain ⟨rfl, rfl⟩ := h; exact of_same (circ_add _ _ w)))
  · (intro xs p v h hp w; unfold tCOf at h; (split at h) <;> first | (cases h; done) | (simp only [Option.some.injEq, Prod.mk.injEq] at h; obtain ⟨rfl, rfl⟩ := h; exact of_same (circ_of _ w)))
/-! ### slices.Clone -/
set_option maxRecDepth 100000 in
set_option maxHeartbeats 4000000 in
theorem clone_some (n cap : Nat) (p : Addr) (f : Nat → Nat → Value) (w : World) (hc : ∀ i j, i < n → j < 2 → w.cell? (p.add (i * 2 + j)) = some (f i j)) (hone : allOneP (rowCells n 2 f)) (hn : n * 24 ≤ 140737488355328) :
    Calls Try.prog 26 #[.slice (some p) n cap] w fun e w' => ∃ v, e = .returned v ∧ w'.ownsRow 0 55 2 v n (rowCells n 2 f) ∧ Below w.heap.size w w' ∧ ∀ b, blockOf v = some b → w.heap.size ≤ b := by
  have qT : ∀ (w : World) (a : Option Addr) (n c n' c' : Nat), (binOp .eql 35 (.slice a n c) (.slice none n' c')).run Try.prog w = .ok (.bool a.isNone) w := fun w a n c n' c' => Lib.run_eql_slice_nil w _ _ a n c n' c' Try.underlying35
  obtain ⟨i, hi, hz, hs, hy⟩ := info_parts opt_info
  have hown : (w.alloc (.cells #[] 55)).ownsRow 0 55 i.size (.slice (some ⟨w.heap.size, 0, none⟩) 0 0) 0 [] := by
    refine ⟨by simp, .inr ⟨w.heap.size, 0, #[], rfl, Nat.zero_le _, heap_alloc_new w _, Nat.zero_le _, Nat.zero_le _, by simp, by simp⟩⟩
  have hb0 : Below w.heap.size w (w.alloc (.cells #[] 55)) := (Below.refl _ w).alloc (Nat.le_refl _) _
  obtain ⟨v', w', hr, h1, h2, h3⟩ := append_core (P := Try.prog) (w := w.alloc (.cells #[] 55)) (t := 35) (ty := 35) Try.underlying35 hi hz (by rw [hs]; rfl) (by rw [hs]; decide) (xb := .slice (some p) n cap) (n := 0) (m := n) (xs := []) (ys := rowCells n 2 f)
    (by omega) (by rw [hy]; omega) hown (.inl ⟨by rw [rowCells_length, hs], hone, .inr ⟨p, cap, rfl, fun j u hj => by
      obtain ⟨g1, g2, g3⟩ := rowCells_get _ _ _ hj
      have hcj := hc _ _ g1 g2
      rw [show j / 2 * 2 + j % 2 = j by omega] at hcj
      have hlt := cell_lt hcj
      rw [g3, ← hcj]
      exact World.cell?_of_block (hb0.block _ hlt)⟩⟩)
  rw [hs] at h1
  rw [Nat.zero_add, List.nil_append] at h1
  go_enter Try.func26, Try.ntmps26
  go_wp2_with (at_builtin; refine Lib.wpList_append_run _ rfl _ _ _ _ rfl _ _ rfl rfl _ _ hr ?_)
  go_ret
  refine ⟨_, rfl, h1, ?_, ?_⟩
  · refine ⟨h2.os.trans hb0.os, h2.tape.trans hb0.tape, h2.output.trans hb0.output, Nat.le_trans hb0.size h2.size, fun k hk => ?_⟩
    have hk' : k < (w.alloc (.cells #[] 55)).heap.size := Nat.lt_of_lt_of_le hk hb0.size
    refine (h2.block k hk' fun e => ?_).trans (hb0.block k hk)
    simp only [blockOf, Option.some.injEq] at e
    omega
  · intro b hb
    rcases h3 b hb with g | g
    · simp only [blockOf, Option.some.injEq] at g; omega
    · simp only [World.size_alloc] at g; omega
theorem clone_none (w : World) : Calls Try.prog 26 #[.slice none 0 0] w fun e w' => e = .returned (.slice none 0 0) ∧ w = w' := by
  have qT : ∀ (w : World) (a : Option Addr) (n c n' c' : Nat), (binOp .eql 35 (.slice a n c) (.slice none n' c')).run Try.prog w = .ok (.bool a.isNone) w := fun w a n c n' c' => Lib.run_eql_slice_nil w _ _ a n c n' c' Try.underlying35
  go_enter Try.func26, Try.ntmps26
  go_wp2
  go_ret
  exact ⟨rfl, rfl⟩
theorem clone_nil (n c : Nat) (w : World) : Calls Try.prog 26 #[.slice none n c] w fun e w' => e = .returned (.slice none 0 0) ∧ w = w' := by
  have qT : ∀ (w : World) (a : Option Addr) (n c n' c' : Nat), (binOp .eql 35 (.slice a n c) (.slice none n' c')).run Try.prog w = .ok (.bool a.isNone) w := fun w a n c n' c' => Lib.run_eql_slice_nil w _ _ a n c n' c' Try.underlying35
  go_enter Try.func26, Try.ntmps26
  go_wp2
  go_ret
  exact ⟨rfl, rfl⟩
def fClone : List SV → List Blk → Option (T (SV × List Blk))
  | [.ref 0], [.row n 2 f] => some (.need (n * 24 ≤ 140737488355328) (.need (allOneP (rowCells n 2 f)) (.leaf (.ref 1, [.row n 2 f, .vec false 55 2 n (rowCells n 2 f)]))))
  | [s], [] => bif isNilS (some s) then some (.leaf (.c (.slice none 0 0), [])) else none
  | _, _ => none
theorem fClone_ok : EntryOk Try.prog 26 fClone := by
  intro ss H t h bs B w vs hm hv Qs hq
  unfold fClone at h
  split at h
  · rename_i n f
    simp only [Option.some.injEq] at h
    subst h
    obtain ⟨hn, hone, hq⟩ := hq
    obtain ⟨x0, r0, e0, v0, rfl⟩ := tos_cons hv
    obtain rfl := tos_nil v0
    simp only [SV.to] at e0
    obtain ⟨p, cap, g1, h1, h2, h3⟩ := hm.row_at (k := 0) rfl
    rw [g1, Option.some.injEq] at e0
    subst e0
    cases p with
    | none =>
      have hn0 : n = 0 := by
        rcases Nat.eq_zero_or_pos n with e | e
        · exact e
        · obtain ⟨a, ha, -⟩ := h3 0 0 e (by decide); cases ha
      subst hn0
      refine (clone_nil _ _ w).mono ?_
      rintro e w' ⟨rfl, rfl⟩
      refine ⟨_, _, B ++ [.slice none 0 0], _, hq, List.prefix_append _ _, rfl, ?_, ?_⟩
      · have := ref_to hm.sat.len (Value.slice none 0 0)
        simpa using this
      · exact hm.add (y := .vec false 55 2 0 (rowCells 0 2 f)) (u := .slice none 0 0) ⟨rfl, rfl, rfl, Nat.le_refl _, fun _ _ _ => rfl⟩ (fun b hb => by cases hb) (.inl ⟨rfl, .inl ⟨rfl, rfl⟩⟩)
    | some a =>
      refine (clone_some n cap a f w (fun i j hi hj => ?_) hone hn).mono ?_
      · obtain ⟨a', ha, hc⟩ := h3 i j hi hj
        simp only [Option.some.injEq] at ha
        subst ha; exact hc
      · rintro e w' ⟨v, rfl, ho, hb, hf⟩
        refine ⟨_, _, B ++ [v], v, hq, List.prefix_append _ _, rfl, ?_, hm.add (below_grown hb) hf (.inl ho)⟩
        have := ref_to hm.sat.len v
        simpa using this
  · rename_i s
    cases hb : isNilS (some s)
    · rw [hb] at h; cases h
    · rw [hb, cond_true, Option.some.injEq] at h
      subst h
      obtain ⟨s', hs', hnil⟩ := nil_to hb
      simp only [Option.some.injEq] at hs'
      subst hs'
      obtain ⟨x0, r0, e0, v0, rfl⟩ := tos_cons hv
      obtain rfl := tos_nil v0
      rw [hnil, Option.some.injEq] at e0
      subst e0
      refine (clone_none w).mono ?_
      rintro e w' ⟨rfl, rfl⟩
      exact ⟨_, _, B, _, hq, List.prefix_refl _, rfl, rfl, hm⟩
  · cases h
end Go.Proofs.Ytodfcalaggfldaa
