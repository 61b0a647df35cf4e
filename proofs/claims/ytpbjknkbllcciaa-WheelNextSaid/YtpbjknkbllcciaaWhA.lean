/- cmp.Compare, cmp.Or; the comparison of timers. No conditions. -/
import Derived.Test.YtpbjknkbllcciaaStrs
import Derived.Test.YtpbjknkbllcciaaShelfC
import Derived.Maps.OwnSet
import Derived.Maps.OwnOps
import Derived.Maps.RangeWalk
import Derived.Sort.KeysCollected
import Derived.Sort.OwnSorted
import Derived.Shelf.SlSortCmp.NoneTotal
import Derived.Deep.QuietTactic
import Derived.BigQuiet
import Derived.StillTailTactics
namespace Go.Proofs.Ytpbjknkbllcciaa
set_option linter.unusedVariables false
set_option linter.unusedSimpArgs false
open Go.RowKit Sym Go.Maps Go.Sort Go.Lib

theorem nan_int (x : Int) (w : World) : Calls Try.prog 22 #[.int .i64 x] w fun e w' => e = .returned (.bool false) ∧ w' = w := by
  go_enter Try.func22, Try.ntmps22
  go_wp2
  go_ret
  simp
theorem nan_str (x : ByteArray) (w : World) : Calls Try.prog 23 #[.string x] w fun e w' => e = .returned (.bool false) ∧ w' = w := by
  go_enter Try.func23, Try.ntmps23
  go_wp2
  go_ret
  simp
theorem compare_int (x y : Int) (w : World) : Calls Try.prog 18 #[.int .i64 x, .int .i64 y] w fun e w' => e = .returned (.int .i64 (compareInt x y)) ∧ w' = w := by
  go_enter Try.func18, Try.ntmps18
  go_wp2_with (go_at_call 22; refine (nan_int _ _).mono ?_; rintro e w' ⟨rfl, rfl⟩)
  all_goals (go_ret; refine ⟨?_, rfl⟩; refine ret_i ?_; unfold compareInt; simp_all; try (split <;> first | omega | (split <;> omega)))
def cmpStr (x y : List UInt8) : Int := if x < y then -1 else if x = y then 0 else 1
theorem compare_str (x y : ByteArray) (w : World) : Calls Try.prog 19 #[.string x, .string y] w fun e w' => e = .returned (.int .i64 (cmpStr x.data.toList y.data.toList)) ∧ w' = w := by
  go_enter Try.func19, Try.ntmps19
  go_wp2_with (go_at_call 23; refine (nan_str _ _).mono ?_; rintro e w' ⟨rfl, rfl⟩)
  all_goals (go_ret; refine ⟨?_, rfl⟩; simp_all [cmpStr, bytesLess_eq, Lib.toList_data])
def orOf (a b : Int) : Int := if a = 0 then b else a
theorem or_two (a b : Int) (g : Nat) (w : World) (ha : w.cell? ⟨g, 0, none⟩ = some (.int .i64 a)) (hb : w.cell? ⟨g, 1, none⟩ = some (.int .i64 b)) : Calls Try.prog 17 #[.slice (some ⟨g, 0, none⟩) 2 2] w fun e w' => e = .returned (.int .i64 (orOf a b)) ∧ w' = w := by
  by_cases h : a = 0
  · subst h
    go_enter Try.func17, Try.ntmps17
    go_wp2
    refine wp_loop_rounds 3 ?_
    rw [rounds_succ]
    go_wp2
    rw [rounds_succ]
    go_wp2
    all_goals try (rw [rounds_succ]; go_wp2)
    all_goals (go_ret; refine ⟨?_, rfl⟩; refine ret_i ?_; simp_all [orOf])
  · go_enter Try.func17, Try.ntmps17
    go_wp2
    refine wp_loop_rounds 1 ?_
    rw [rounds_succ]
    go_wp2
    all_goals first | (exfalso; simp_all; done) | skip
    all_goals (go_ret; refine ⟨?_, rfl⟩; refine ret_i ?_; simp_all [orOf])
/-- a name that is not too long -/
abbrev KS := {l : List UInt8 // l.length ≤ maxLen}
instance : Inhabited KS := ⟨⟨[], Nat.zero_le _⟩⟩
abbrev encK : KS → Value := fun x => Value.string ⟨x.1.toArray⟩
def dueL (D : DataW Unit) (x : List UInt8) : Int := mNum (D.atKey (.string x) (.lit (.int .i64 0)))
def cfW (D : DataW Unit) (x y : List UInt8) : Int := orOf (compareInt (dueL D x) (dueL D y)) (cmpStr x y)
theorem look_run {b n : Nat} {D : DataW Unit} {w : World} (hown : w.ownsMap Try.prog 9 (plainElem Try.prog 3) b n D) (x : KS) : (Instr.lookup 41 (.map (some b)) (encK x) false).run Try.prog w = .ok (.int .i64 (dueL D x.1)) w := by
  have hz : ∀ w : World, (zeroValue 3).run Try.prog w = .ok (.int .i64 0) w := fun w => by kernel_rfl
  obtain ⟨c, hrun, hat, -⟩ := hown.lookup_int (string_keyed Try.underlying9) Try.underlying41 Try.underlying3 (hz w) (Go.WideMaps.keyOf_string_mk Try.underlying9 (s := ⟨x.1.toArray⟩) (by show x.1.toArray.size ≤ maxLen; simpa using x.2))
  rw [hrun]
  unfold dueL
  have e : D.atKey (.string x.1) (.lit (.int .i64 0)) = .lit (.int .i64 c) := by simpa using hat
  rw [e]
  rfl
set_option maxHeartbeats 1000000 in
set_option maxRecDepth 100000 in
theorem order1 {b n sb bx : Nat} {D : DataW Unit} {W : World} (hbx : W.cell? ⟨bx, 0, none⟩ = some (.pointer (some ⟨sb, 0, none⟩))) (hsb : W.cell? ⟨sb, 1, none⟩ = some (.map (some b))) (hown : W.ownsMap Try.prog 9 (plainElem Try.prog 3) b n D) (x y : KS) :
    Calls Try.prog 16 #[encK x, encK y, .pointer (some ⟨bx, 0, none⟩)] W fun e w' => e = .returned (.int .i64 (cfW D x.1 y.1)) ∧ ∃ q os, w' = grow (W.drewN q) os := by
  have h1 := look_run hown.drew x
  have h2 := look_run hown.drew y
  go_enter Try.func16, Try.ntmps16
  go_wp2
  refine wp_region_still_tail 16 (by kernel_rfl) (by kernel_rfl) ?_
  simp only [List.take_succ_cons, List.take_zero, List.drop_succ_cons, List.drop_zero]
  change wpStill _ _ (World.drew _) (fun a' => wpList _ _ _ _ a' (World.drew _)) _ _
  (repeat still_step)
  still_call (compare_int _ _ _)
  (repeat still_step)
  still_call (compare_str _ _ _)
  refine wpStill_nil ?_
  generalize hc1 : compareInt (dueL D x.1) (dueL D y.1) = c1
  generalize hc2 : cmpStr _ _ = c2
  go_wp2_with (go_at_call 17; refine (or_two c1 c2 _ _ (by simp) (by simp)).mono ?_; rintro e w' ⟨rfl, rfl⟩)
  all_goals (go_ret; refine ⟨?_, 1, #[Obj.cells #[Value.int IntKind.i64 c1, Value.int IntKind.i64 c2] 3], ?_⟩)
  · unfold cfW
    rw [hc1]
    show Ending.returned (Value.int IntKind.i64 (orOf c1 c2)) = _
    rw [← hc2]
  · rfl
/-! names in order -/
def ltW (D : DataW Unit) (x y : List UInt8) : Prop := dueL D x < dueL D y ∨ (dueL D x = dueL D y ∧ x < y)
instance (D : DataW Unit) (x y : List UInt8) : Decidable (ltW D x y) := by unfold ltW; exact inferInstance
theorem cmpStr_neg (x y : List UInt8) : cmpStr x y < 0 ↔ x < y := by
  unfold cmpStr
  by_cases h : x < y
  · simp [h]
  · by_cases h2 : x = y
    · subst h2; simp [List.lt_irrefl]
    · simp [h, h2]
theorem cfW_neg (D : DataW Unit) (x y : List UInt8) : cfW D x y < 0 ↔ ltW D x y := by
  unfold cfW orOf ltW compareInt
  rcases Int.lt_trichotomy (dueL D x) (dueL D y) with h | h | h
  · simp [h]
  · simp [h, cmpStr_neg]
  · have h1 : ¬ dueL D x < dueL D y := by omega
    have h2 : ¬ dueL D x = dueL D y := by omega
    simp [h, h1, h2]
theorem ltW_irrefl (D : DataW Unit) (x : List UInt8) : ¬ ltW D x x := by
  rintro (h | ⟨-, h⟩)
  · omega
  · exact List.lt_irrefl _ h
theorem ltW_trans {D : DataW Unit} {x y z : List UInt8} (h : ltW D x y) (h' : ltW D y z) : ltW D x z := by
  rcases h with h | ⟨h1, h2⟩ <;> rcases h' with h' | ⟨h3, h4⟩
  · exact .inl (by omega)
  · exact .inl (by omega)
  · exact .inl (by omega)
  · exact .inr ⟨by omega, List.lt_trans h2 h4⟩
theorem ltW_tri (D : DataW Unit) (x y : List UInt8) : ltW D x y ∨ x = y ∨ ltW D y x := by
  rcases Int.lt_trichotomy (dueL D x) (dueL D y) with h | h | h
  · exact .inl (.inl h)
  · by_cases h1 : x < y
    · exact .inl (.inr ⟨h, h1⟩)
    · by_cases h2 : y < x
      · exact .inr (.inr (.inr ⟨h.symm, h2⟩))
      · exact .inr (.inl (List.le_antisymm (List.not_lt.1 h2) (List.not_lt.1 h1)))
  · exact .inr (.inr (.inl h))
theorem swoK (D : DataW Unit) : SWO (ltOf fun x y : KS => cfW D x.1 y.1) where
  irrefl x := by
    have := ltW_irrefl D x.1
    unfold ltOf
    rw [decide_eq_false_iff_not, cfW_neg]; exact this
  trans x y z h1 h2 := by
    unfold ltOf at *
    rw [decide_eq_true_eq, cfW_neg] at *
    exact ltW_trans h1 h2
  ntrans x y z h1 h2 := by
    unfold ltOf at *
    rw [decide_eq_false_iff_not, cfW_neg] at *
    intro h3
    rcases ltW_tri D x.1 y.1 with h | h | h
    · exact h1 h
    · rw [h] at h3; exact h2 h3
    · exact h2 (ltW_trans h h3)
theorem putRow_val (w : World) (blk off : Nat) (d : Array KS) : putRow encK w blk off d = putRow encStr w blk off (d.map (·.1)) := by
  unfold putRow
  congr 1
  funext c
  unfold putCells
  congr 1
  funext k x
  rw [Array.size_map]
  split
  · rename_i h
    have hlt : k - off < d.size := by omega
    rw [getElem!_pos d _ hlt, getElem!_pos (d.map (·.1)) _ (by simpa using hlt), Array.getElem_map]
  · rfl
theorem sortWorld_val (w : World) (blk off m : Nat) (d : Array KS) (os : Array Obj) : sortWorld encK w blk off m d os = sortWorld encStr w blk off m (d.map (·.1)) os := by
  unfold sortWorld; rw [putRow_val]
/-- the names of a map, in order -/
def Ord (D : DataW Unit) (rs : List (List UInt8)) : Prop := rs.Perm (strKeys D) ∧ rs.Pairwise (ltW D)
theorem Ord.unique {D : DataW Unit} {rs rs' : List (List UInt8)} (h : Ord D rs) (h' : Ord D rs') : rs = rs' :=
  (h.1.trans h'.1.symm).eq_of_pairwise (fun a b _ _ h1 h2 => absurd (ltW_trans h1 h2) (ltW_irrefl D a)) h.2 h'.2
end Go.Proofs.Ytpbjknkbllcciaa
