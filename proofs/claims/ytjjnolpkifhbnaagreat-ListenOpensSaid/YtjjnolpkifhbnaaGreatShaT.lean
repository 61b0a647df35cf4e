/- The sum of bytes: constants, numbers turned round. No conditions. -/
import Derived.Test.YtjjnolpkifhbnaaGreatTabOct
import Derived.Test.YtjjnolpkifhbnaaGreatPlA
namespace Go.Proofs.YtjjnolpkifhbnaaGreat
set_option linter.unusedVariables false
set_option linter.unusedSimpArgs false
open Go.RowKit Sym Sha

def rots : List Nat := [2, 6, 7, 11, 13, 17, 18, 19, 22, 25]
def rorM (x : Int) (n : Nat) : Int := IntKind.u32.wrap (((IntKind.u32.wrap (x * ((2 ^ (32 - n) : Nat) : Int)) % 4294967296).toNat ||| (x.fdiv ((2 ^ n : Nat) : Int) % 4294967296).toNat : Nat) : Int)
theorem rorM_eq (x : Int) (n : Nat) : rorM x n = rorN x n := by unfold rorM rorN; rw [Nat.or_comm]
theorem of_rots {p : Nat → Prop} (h2 : p 2) (h6 : p 6) (h7 : p 7) (h11 : p 11) (h13 : p 13) (h17 : p 17) (h18 : p 18) (h19 : p 19) (h22 : p 22) (h25 : p 25) : ∀ n, rots.any (Nat.beq n) = true → p n := by
  intro n h
  simp only [rots, List.any_cons, List.any_nil, Bool.or_false, Bool.or_eq_true, Nat.beq_eq] at h
  rcases h with rfl | rfl | rfl | rfl | rfl | rfl | rfl | rfl | rfl | rfl <;> assumption
theorem rotl_any (x : Int) : ∀ n, rots.any (Nat.beq n) = true → runV Tryz.prog (onlyS Tryz.prog SOct) noL Tryz.f127 [.int .u32 x, .int .i64 (-(n : Int))] = .leaf (.int .u32 (rorM x n)) :=
  of_rots (by kernel_rfl) (by kernel_rfl) (by kernel_rfl) (by kernel_rfl) (by kernel_rfl) (by kernel_rfl) (by kernel_rfl) (by kernel_rfl) (by kernel_rfl) (by kernel_rfl)
def tRotl : List Value → Option (List Prop × Value) | [.int .u32 x, .int .i64 (.negSucc m)] => (bif rots.any (Nat.beq (m + 1)) then some ([], .int .u32 (rorN x (m + 1))) else none) | _ => none
theorem rotl (x : Int) (n : Nat) (hn : rots.any (Nat.beq n) = true) (w : World) : Calls Tryz.prog 127 #[.int .u32 x, .int .i64 (-(n : Int))] w fun e w' => e = .returned (.int .u32 (rorN x n)) ∧ Below w.heap.size w w' := by
  refine calls_runV (onlyS_ok SOct_ok) follows Tryz.func127 (by kernel_rfl) (by kernel_rfl) noL_ok (rotl_any x n hn) ?_ w
  simp [T.ok, rorM_eq]
def SSha2 : Tab := addS 127 tRotl SOct
theorem SSha2_ok : TabOk Tryz.prog SSha2 := addS_ok SOct_ok (by kernel_rfl) (by
  intro xs p v h hp w
  unfold tRotl at h
  split at h
  · rename_i x m
    cases hb : rots.any (Nat.beq (m + 1))
    · rw [hb] at h; cases h
    · rw [hb, cond_true] at h
      simp only [Option.some.injEq, Prod.mk.injEq] at h
      obtain ⟨rfl, rfl⟩ := h
      exact rotl x (m + 1) hb w
  · cases h)
def tRor : List Value → Option (List Prop × Value) | [.int .u32 x, .int .i64 (.ofNat m)] => (bif rots.any (Nat.beq m) then some ([], .int .u32 (rorN x m)) else none) | _ => none
theorem ror_any (x : Int) : ∀ n, rots.any (Nat.beq n) = true → runV Tryz.prog (onlyS Tryz.prog SSha2) noL Tryz.f124 [.int .u32 x, .int .i64 (n : Int)] = .leaf (.int .u32 (rorN x n)) :=
  of_rots (by kernel_rfl) (by kernel_rfl) (by kernel_rfl) (by kernel_rfl) (by kernel_rfl) (by kernel_rfl) (by kernel_rfl) (by kernel_rfl) (by kernel_rfl) (by kernel_rfl)
theorem sha_ror (x : Int) (n : Nat) (hn : rots.any (Nat.beq n) = true) (w : World) : Calls Tryz.prog 124 #[.int .u32 x, .int .i64 (n : Int)] w fun e w' => e = .returned (.int .u32 (rorN x n)) ∧ Below w.heap.size w w' := by
  refine calls_runV (onlyS_ok SSha2_ok) follows Tryz.func124 (by kernel_rfl) (by kernel_rfl) noL_ok (ror_any x n hn) ?_ w
  simp [T.ok]
theorem ror05_any (x : Int) : ∀ n, rots.any (Nat.beq n) = true → runV Tryz.prog (onlyS Tryz.prog SSha2) noL Tryz.f112 [.int .u32 x, .int .i64 (n : Int)] = .leaf (.int .u32 (rorN x n)) :=
  of_rots (by kernel_rfl) (by kernel_rfl) (by kernel_rfl) (by kernel_rfl) (by kernel_rfl) (by kernel_rfl) (by kernel_rfl) (by kernel_rfl) (by kernel_rfl) (by kernel_rfl)
theorem ref05_ror (x : Int) (n : Nat) (hn : rots.any (Nat.beq n) = true) (w : World) : Calls Tryz.prog 112 #[.int .u32 x, .int .i64 (n : Int)] w fun e w' => e = .returned (.int .u32 (rorN x n)) ∧ Below w.heap.size w w' := by
  refine calls_runV (onlyS_ok SSha2_ok) follows Tryz.func112 (by kernel_rfl) (by kernel_rfl) noL_ok (ror05_any x n hn) ?_ w
  simp [T.ok]
theorem tRor_ok {f : FuncId} (hc : ∀ (x : Int) (n : Nat), rots.any (Nat.beq n) = true → ∀ w, Calls Tryz.prog f #[.int .u32 x, .int .i64 (n : Int)] w fun e w' => e = .returned (.int .u32 (rorN x n)) ∧ Below w.heap.size w w') :
    ∀ xs p v, tRor xs = some (p, v) → (∀ q ∈ p, q) → ∀ w, Calls Tryz.prog f xs.toArray w fun e w' => e = .returned v ∧ Below w.heap.size w w' := by
  intro xs p v h hp w
  unfold tRor at h
  split at h
  · rename_i x m
    cases hb : rots.any (Nat.beq m)
    · rw [hb] at h; cases h
    · rw [hb, cond_true] at h
      simp only [Option.some.injEq, Prod.mk.injEq] at h
      obtain ⟨rfl, rfl⟩ := h
      exact hc x m hb w
  · cases h
theorem nums_at (k : IntKind) (l : List Int) (j : Nat) (h : j < l.length) : ((l.map (Value.int k)).drop j).take 1 = [.int k (intV (cellAt (l.map (Value.int k)) j))] ∧ intV (cellAt (l.map (Value.int k)) j) = nth l j := by
  have h1 : (l.map (Value.int k))[j]? = some (.int k l[j]) := by simp [h]
  have h2 : cellAt (l.map (Value.int k)) j = .int k l[j] := by simp [cellAt, List.getD_eq_getElem?_getD, h1]
  have h3 : nth l j = l[j] := by simp [nth, List.getD_eq_getElem?_getD, h]
  refine ⟨?_, by rw [h2, h3]; rfl⟩
  rw [h2]
  apply List.ext_getElem?
  intro i
  rw [List.getElem?_take]
  cases i with
  | zero => simp [h]; rfl
  | succ i => simp
set_option maxRecDepth 100000 in
theorem const_run (i : Int) : runV Tryz.prog (onlyS Tryz.prog SSha2) noL Tryz.f125 [.int .i64 i] = .need ((0 : Int) ≤ i ∧ i < (↑64 : Int)) (.need (0 + i.toNat * 1 < 64) (.leaf (Value.int IntKind.u32 (nth [(1116352408 : Int), (1899447441 : Int), (3049323471 : Int), (3921009573 : Int), (961987163 : Int), (1508970993 : Int), (2453635748 : Int), (2870763221 : Int), (3624381080 : Int), (310598401 : Int), (607225278 : Int), (1426881987 : Int), (1925078388 : Int), (2162078206 : Int), (2614888103 : Int), (3248222580 : Int), (3835390401 : Int), (4022224774 : Int), (264347078 : Int), (604807628 : Int), (770255983 : Int), (1249150122 : Int), (1555081692 : Int), (1996064986 : Int), (2554220882 : Int), (2821834349 : Int), (2952996808 : Int), (3210313671 : Int), (3336571891 : Int), (3584528711 : Int), (113926993 : Int), (338241895 : Int), (666307205 : Int), (773529912 : Int), (1294757372 : Int), (1396182291 : Int), (1695183700 : Int), (1986661051 : Int), (2177026350 : Int), (2456956037 : Int), (2730485921 : Int), (2820302411 : Int), (3259730800 : Int), (3345764771 : Int), (3516065817 : Int), (3600352804 : Int), (4094571909 : Int), (275423344 : Int), (430227734 : Int), (506948616 : Int), (659060556 : Int), (883997877 : Int), (958139571 : Int), (1322822218 : Int), (1537002063 : Int), (1747873779 : Int), (1955562222 : Int), (2024104815 : Int), (2227730452 : Int), (2361852424 : Int), (2428436474 : Int), (2756734187 : Int), (3204031479 : Int), (3329325298 : Int)] (0 + i.toNat * 1))))) := by kernel_rfl
set_option maxRecDepth 100000 in
theorem k05_run (i : Int) : runV Tryz.prog (onlyS Tryz.prog SSha2) noL Tryz.f113 [.int .i64 i] = .need ((0 : Int) ≤ i ∧ i < (↑64 : Int)) (.need (i.toNat < 64) (.need (List.take 1 (List.drop (i.toNat * 1 + 0) [Value.int IntKind.u32 1116352408, Value.int IntKind.u32 1899447441, Value.int IntKind.u32 3049323471, Value.int IntKind.u32 3921009573, Value.int IntKind.u32 961987163, Value.int IntKind.u32 1508970993, Value.int IntKind.u32 2453635748, Value.int IntKind.u32 2870763221, Value.int IntKind.u32 3624381080, Value.int IntKind.u32 310598401, Value.int IntKind.u32 607225278, Value.int IntKind.u32 1426881987, Value.int IntKind.u32 1925078388, Value.int IntKind.u32 2162078206, Value.int IntKind.u32 2614888103, Value.int IntKind.u32 3248222580, Value.int IntKind.u32 3835390401, Value.int IntKind.u32 4022224774, Value.int IntKind.u32 264347078, Value.int IntKind.u32 604807628, Value.int IntKind.u32 770255983, Value.int IntKind.u32 1249150122, Value.int IntKind.u32 1555081692, Value.int IntKind.u32 1996064986, Value.int IntKind.u32 2554220882, Value.int IntKind.u32 2821834349, Value.int IntKind.u32 2952996808, Value.int IntKind.u32 3210313671, Value.int IntKind.u32 3336571891, Value.int IntKind.u32 3584528711, Value.int IntKind.u32 113926993, Value.int IntKind.u32 338241895, Value.int IntKind.u32 666307205, Value.int IntKind.u32 773529912, Value.int IntKind.u32 1294757372, Value.int IntKind.u32 1396182291, Value.int IntKind.u32 1695183700, Value.int IntKind.u32 1986661051, Value.int IntKind.u32 2177026350, Value.int IntKind.u32 2456956037, Value.int IntKind.u32 2730485921, Value.int IntKind.u32 2820302411, Value.int IntKind.u32 3259730800, Value.int IntKind.u32 3345764771, Value.int IntKind.u32 3516065817, Value.int IntKind.u32 3600352804, Value.int IntKind.u32 4094571909, Value.int IntKind.u32 275423344, Value.int IntKind.u32 430227734, Value.int IntKind.u32 506948616, Value.int IntKind.u32 659060556, Value.int IntKind.u32 883997877, Value.int IntKind.u32 958139571, Value.int IntKind.u32 1322822218, Value.int IntKind.u32 1537002063, Value.int IntKind.u32 1747873779, Value.int IntKind.u32 1955562222, Value.int IntKind.u32 2024104815, Value.int IntKind.u32 2227730452, Value.int IntKind.u32 2361852424, Value.int IntKind.u32 2428436474, Value.int IntKind.u32 2756734187, Value.int IntKind.u32 3204031479, Value.int IntKind.u32 3329325298]) = [Value.int IntKind.u32 (intV (cellAt [Value.int IntKind.u32 1116352408, Value.int IntKind.u32 1899447441, Value.int IntKind.u32 3049323471, Value.int IntKind.u32 3921009573, Value.int IntKind.u32 961987163, Value.int IntKind.u32 1508970993, Value.int IntKind.u32 2453635748, Value.int IntKind.u32 2870763221, Value.int IntKind.u32 3624381080, Value.int IntKind.u32 310598401, Value.int IntKind.u32 607225278, Value.int IntKind.u32 1426881987, Value.int IntKind.u32 1925078388, Value.int IntKind.u32 2162078206, Value.int IntKind.u32 2614888103, Value.int IntKind.u32 3248222580, Value.int IntKind.u32 3835390401, Value.int IntKind.u32 4022224774, Value.int IntKind.u32 264347078, Value.int IntKind.u32 604807628, Value.int IntKind.u32 770255983, Value.int IntKind.u32 1249150122, Value.int IntKind.u32 1555081692, Value.int IntKind.u32 1996064986, Value.int IntKind.u32 2554220882, Value.int IntKind.u32 2821834349, Value.int IntKind.u32 2952996808, Value.int IntKind.u32 3210313671, Value.int IntKind.u32 3336571891, Value.int IntKind.u32 3584528711, Value.int IntKind.u32 113926993, Value.int IntKind.u32 338241895, Value.int IntKind.u32 666307205, Value.int IntKind.u32 773529912, Value.int IntKind.u32 1294757372, Value.int IntKind.u32 1396182291, Value.int IntKind.u32 1695183700, Value.int IntKind.u32 1986661051, Value.int IntKind.u32 2177026350, Value.int IntKind.u32 2456956037, Value.int IntKind.u32 2730485921, Value.int IntKind.u32 2820302411, Value.int IntKind.u32 3259730800, Value.int IntKind.u32 3345764771, Value.int IntKind.u32 3516065817, Value.int IntKind.u32 3600352804, Value.int IntKind.u32 4094571909, Value.int IntKind.u32 275423344, Value.int IntKind.u32 430227734, Value.int IntKind.u32 506948616, Value.int IntKind.u32 659060556, Value.int IntKind.u32 883997877, Value.int IntKind.u32 958139571, Value.int IntKind.u32 1322822218, Value.int IntKind.u32 1537002063, Value.int IntKind.u32 1747873779, Value.int IntKind.u32 1955562222, Value.int IntKind.u32 2024104815, Value.int IntKind.u32 2227730452, Value.int IntKind.u32 2361852424, Value.int IntKind.u32 2428436474, Value.int IntKind.u32 2756734187, Value.int IntKind.u32 3204031479, Value.int IntKind.u32 3329325298] (i.toNat * 1 + 0)))]) (.leaf (Value.int IntKind.u32 (intV (cellAt [Value.int IntKind.u32 1116352408, Value.int IntKind.u32 1899447441, Value.int IntKind.u32 3049323471, Value.int IntKind.u32 3921009573, Value.int IntKind.u32 961987163, Value.int IntKind.u32 1508970993, Value.int IntKind.u32 2453635748, Value.int IntKind.u32 2870763221, Value.int IntKind.u32 3624381080, Value.int IntKind.u32 310598401, Value.int IntKind.u32 607225278, Value.int IntKind.u32 1426881987, Value.int IntKind.u32 1925078388, Value.int IntKind.u32 2162078206, Value.int IntKind.u32 2614888103, Value.int IntKind.u32 3248222580, Value.int IntKind.u32 3835390401, Value.int IntKind.u32 4022224774, Value.int IntKind.u32 264347078, Value.int IntKind.u32 604807628, Value.int IntKind.u32 770255983, Value.int IntKind.u32 1249150122, Value.int IntKind.u32 1555081692, Value.int IntKind.u32 1996064986, Value.int IntKind.u32 2554220882, Value.int IntKind.u32 2821834349, Value.int IntKind.u32 2952996808, Value.int IntKind.u32 3210313671, Value.int IntKind.u32 3336571891, Value.int IntKind.u32 3584528711, Value.int IntKind.u32 113926993, Value.int IntKind.u32 338241895, Value.int IntKind.u32 666307205, Value.int IntKind.u32 773529912, Value.int IntKind.u32 1294757372, Value.int IntKind.u32 1396182291, Value.int IntKind.u32 1695183700, Value.int IntKind.u32 1986661051, Value.int IntKind.u32 2177026350, Value.int IntKind.u32 2456956037, Value.int IntKind.u32 2730485921, Value.int IntKind.u32 2820302411, Value.int IntKind.u32 3259730800, Value.int IntKind.u32 3345764771, Value.int IntKind.u32 3516065817, Value.int IntKind.u32 3600352804, Value.int IntKind.u32 4094571909, Value.int IntKind.u32 275423344, Value.int IntKind.u32 430227734, Value.int IntKind.u32 506948616, Value.int IntKind.u32 659060556, Value.int IntKind.u32 883997877, Value.int IntKind.u32 958139571, Value.int IntKind.u32 1322822218, Value.int IntKind.u32 1537002063, Value.int IntKind.u32 1747873779, Value.int IntKind.u32 1955562222, Value.int IntKind.u32 2024104815, Value.int IntKind.u32 2227730452, Value.int IntKind.u32 2361852424, Value.int IntKind.u32 2428436474, Value.int IntKind.u32 2756734187, Value.int IntKind.u32 3204031479, Value.int IntKind.u32 3329325298] (i.toNat * 1 + 0))))))) := by kernel_rfl
def tKt : List Value → Option (List Prop × Value) | [.int .i64 i] => some ([0 ≤ i ∧ i < 64], .int .u32 (nth Kt i.toNat)) | _ => none
theorem sha_constant (i : Int) (hi : 0 ≤ i ∧ i < 64) (w : World) : Calls Tryz.prog 125 #[.int .i64 i] w fun e w' => e = .returned (.int .u32 (nth Kt i.toNat)) ∧ Below w.heap.size w w' := by
  refine calls_runV (onlyS_ok SSha2_ok) follows Tryz.func125 (by kernel_rfl) (by kernel_rfl) noL_ok (const_run i) ?_ w
  refine ⟨⟨hi.1, hi.2⟩, by omega, ?_⟩
  simp only [T.ok, Nat.zero_add, Nat.mul_one]
  rfl
theorem ref05_k (i : Int) (hi : 0 ≤ i ∧ i < 64) (w : World) : Calls Tryz.prog 113 #[.int .i64 i] w fun e w' => e = .returned (.int .u32 (nth Kt i.toNat)) ∧ Below w.heap.size w w' := by
  refine calls_runV (onlyS_ok SSha2_ok) follows Tryz.func113 (by kernel_rfl) (by kernel_rfl) noL_ok (k05_run i) ?_ w
  have h := nums_at .u32 Kt i.toNat (by show i.toNat < 64; omega)
  rw [← h.2]
  refine ⟨⟨hi.1, hi.2⟩, by omega, ?_, ?_⟩
  · simp only [Nat.mul_one, Nat.add_zero]; exact h.1
  · simp only [T.ok, Nat.mul_one, Nat.add_zero]; rfl
def SSha3  : Tab := addS 113 tKt <| addS 112 tRor <| addS 125 tKt <| addS 124 tRor <| SSha2
theorem SSha3_ok : TabOk Tryz.prog (SSha3) := by
  refine addS_ok (addS_ok (addS_ok (addS_ok (SSha2_ok) (by kernel_rfl) ?_) (by kernel_rfl) ?_) (by kernel_rfl) ?_) (by kernel_rfl) ?_
  · exact tRor_ok sha_ror
  · (intro xs p v h hp w; unfold tKt at h; (split at h) <;> first | (cases h; done) | (simp only [Option.some.injEq, Prod.mk.injEq] at h; obtain ⟨rfl, rfl⟩ := h; exact sha_constant _ (hp _ (List.mem_cons_self ..)) w))
  · exact tRor_ok ref05_ror
  · (intro xs p v h hp w; unfold tKt at h; (split at h) <;> first | (cases h; done) | (simp only [Option.some.injEq, Prod.mk.injEq] at h; obtain ⟨rfl, rfl⟩ := h; exact ref05_k _ (hp _ (List.mem_cons_self ..)) w))
end Go.Proofs.YtjjnolpkifhbnaaGreat
