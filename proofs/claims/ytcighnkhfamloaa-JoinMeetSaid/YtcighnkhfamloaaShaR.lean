/- The reference's sum of bytes. Conditions: texts shorter than 2 to the 40. -/
import Derived.Test.YtcighnkhfamloaaShaD
namespace Go.Proofs.Ytcighnkhfamloaa
set_option linter.unusedVariables false
set_option linter.unusedSimpArgs false
open Go.RowKit Sym Sha

def stPad (s t : ByteArray) : St := ⟨[(0, some (.v (.string s))), (3, some (.v (.string t)))], []⟩

def stR1 (p : ByteArray) (a : Int) (hs : List Value) (ws : List Int) (i : Int) : St := ⟨[(6, some (.ref 1)), (3, some (.ref 0)), (4, some (.v (.string p))), (5, some (.v (.int .i64 a))), (7, some (.v (.int .i64 i)))], [.vec true 46 1 8 hs, .vec true 46 1 ws.length (ws.map (Value.int .u32))]⟩

def u8l (h : H8) : List Int := [h.a, h.b, h.c, h.d, h.e, h.f, h.g, h.h]
def stR2 (p : ByteArray) (a : Int) (hs : List Value) (ws : List Int) (v : H8) (i : Int) : St := ⟨[(10, some (.ref 4)), (6, some (.ref 1)), (3, some (.ref 0)), (4, some (.v (.string p))), (5, some (.v (.int .i64 a))), (11, some (.v (.int .i64 i)))], [.vec true 46 1 8 hs, .vec true 46 1 64 (ws.map (Value.int .u32)), .gone, .gone, .vec true 46 1 8 ((u8l v).map (Value.int .u32))]⟩

theorem wrap_u32 (z : Int) (h0 : 0 ≤ z) (h1 : z < 4294967296) : IntKind.u32.wrap z = z := by simp only [IntKind.wrap, IntKind.bits, IntKind.signed]; simp; omega
theorem word_at (p : ByteArray) (a i : Nat) (h : a + 4 * i + 4 ≤ p.size) : IntKind.u32.wrap (valU (p.extract (a + 4 * i) (a + 4 * i + 4))) = word (p.data.toList.drop a) i := by
  have e : (p.extract (a + 4 * i) (a + 4 * i + 4)).data.toList = ((p.data.toList.drop a).drop (4 * i)).take 4 := by
    rw [ByteArray.data_extract, Array.toList_extract, List.drop_drop]
    simp [List.extract_eq_take_drop]
  have hv := val4_lt (((p.data.toList.drop a).drop (4 * i)).take 4) (by simp; omega)
  unfold valU word
  rw [e, Nat.mod_eq_of_lt (by omega), wrap_u32 _ (by omega) (by omega)]
theorem at_num (l : List Int) (j : Nat) (h : j < l.length) : intV (cellAt (l.map (Value.int .u32)) (j * 1 + 0)) = nth l j := by rw [Nat.mul_one, Nat.add_zero]; exact (nums_at .u32 l j h).2
theorem at_sh (l : List Int) (j : Nat) (h : j < l.length) : List.take 1 (List.drop (j * 1 + 0) (l.map (Value.int .u32))) = [Value.int .u32 (intV (cellAt (l.map (Value.int .u32)) (j * 1 + 0)))] := by rw [Nat.mul_one, Nat.add_zero]; exact (nums_at .u32 l j h).1
theorem one_u32 (z : Int) : allOneP [Value.int .u32 z] := by intro u hu; simp at hu; subst hu; rfl
def withH8v {α : Type} (st : St) (j : Nat) (k : H8 → T α) : T α := match st.H[j]? with
  | some (.vec _ _ _ _ [.int .u32 a, .int .u32 b, .int .u32 c, .int .u32 d, .int .u32 e, .int .u32 f, .int .u32 g, .int .u32 h]) => k ⟨a, b, c, d, e, f, g, h⟩
  | _ => .stuck 164
theorem runH8v {P : Program} {N : Nat} {c : Code} {st : St} {t : Nat} {k : H8 → T (Ex × St)} (h : ∀ s, RunOk P N c st (k s)) : RunOk P N c st (withH8v st t k) := by
  unfold withH8v; split
  · exact h _
  · exact .stuck
def hvs (h : H8) : List Value := [.int .u32 h.a, .int .u32 h.b, .int .u32 h.c, .int .u32 h.d, .int .u32 h.e, .int .u32 h.f, .int .u32 h.g, .int .u32 h.h]
/-- the loops of a block; W, R: the numbers of the rounds, and the state behind them -/
def LBlk (P : Program) (S : Tab) (fn : Func) (W : ByteArray → Int → List Int) (R : List Int → H8 → H8) : Nat → St → Option (T (Ex × St)) :=
  addL 2 (fun st => withStr st 4 fun p => withInt st 5 fun a => withH8v st 0 fun h => .need (0 ≤ a ∧ a + 64 ≤ p.size ∧ p.size ≤ 2199023255552) (.need (st.H.length = 1) (.need (st.tidy 1 [3, 4, 5, 7] [(6, 46, 1)] [0] = stR1 p a (hvs h) [] (0 : Nat)) ((roundM P (onlyS P S) noL 217 2 (loopIn (loopAt fn 0) 0) 1 [3, 4, 5, 7] [(6, 46, 1)] [0] (closeAt [7] (stR1 p a (hvs h) (W p a) (64 : Nat)))).bind (lastX 2)))))
  (addL 4 (fun st => withStr st 4 fun p => withInt st 5 fun a => withH8v st 0 fun h => .need ((W p a).length = 64) (.need (st.H.length = 4) (.need (st.tidy 4 [6, 3, 4, 5, 11] [(10, 46, 1)] [0, 1] = stR2 p a (hvs h) (W p a) h (0 : Nat)) ((roundM P (onlyS P S) noL 217 4 (loopIn (loopAt fn 0) 1) 4 [6, 3, 4, 5, 11] [(10, 46, 1)] [0, 1] (closeAt [11] (stR2 p a (hvs h) (W p a) (R (W p a) h) (64 : Nat)))).bind (lastX 4)))))
  (addL 6 (unrollB (runC P (onlyS P S) noL 217 (loopIn (loopAt fn 0) 2)) 6 9) noL))
def stR (p : ByteArray) (h : H8) (a : Int) : St := ⟨[(3, some (.ref 0)), (4, some (.v (.string p))), (5, some (.v (.int .i64 a)))], [.vec true 46 1 8 (hvs h)]⟩

def WS (p : ByteArray) (a : Int) : List Int := schedL (word (p.data.toList.drop a.toNat)) 64
def RS (ws : List Int) (h : H8) : H8 := rnds ws 64 h
theorem one_u32s (l : List Int) : allOneP (l.map (Value.int .u32)) := by
  intro u hu
  obtain ⟨z, _, rfl⟩ := List.mem_map.1 hu
  rfl
theorem blk_sum (v h : H8) : [Value.int .u32 (IntKind.u32.wrap (h.a + v.a)), .int .u32 (IntKind.u32.wrap (h.b + v.b)), .int .u32 (IntKind.u32.wrap (h.c + v.c)), .int .u32 (IntKind.u32.wrap (h.d + v.d)), .int .u32 (IntKind.u32.wrap (h.e + v.e)), .int .u32 (IntKind.u32.wrap (h.f + v.f)), .int .u32 (IntKind.u32.wrap (h.g + v.g)), .int .u32 (IntKind.u32.wrap (h.h + v.h))] = hvs (addH v h) := by
  unfold hvs addH w32
  simp only [Int.add_comm]
theorem ws_sched (p : ByteArray) (a : Nat) : WS p (a : Int) = sched ((p.data.toList.drop a).take 64) := by
  unfold WS sched
  rw [Int.toNat_natCast]
  refine schedL_congr (fun i hi => ?_) 64
  unfold word
  rw [List.drop_take, List.take_take, Nat.min_eq_left (by omega)]
end Go.Proofs.Ytcighnkhfamloaa
