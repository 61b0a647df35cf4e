/- The Internet's checksum, plainly. No conditions. -/
import Derived.PlainAid
import Derived.Test.YtodfcalaggfldaaSymH
import Derived.Test.YtodfcalaggfldaaCuA
import Derived.Test.YtodfcalaggfldaaStrs
namespace Go.Proofs.Ytodfcalaggfldaa.Inet
set_option linter.unusedVariables false
set_option linter.unusedSimpArgs false

/-- what is above 16 bits, added at the lower end, as often as may be -/
def foldN (n : Int) : Int := if n = 0 then 0 else (n - 1) % 65535 + 1
theorem fold_small {n : Int} (h0 : 0 ≤ n) (h1 : n ≤ 65535) : foldN n = n := by
  unfold foldN
  split <;> omega
theorem fold_step {n : Int} (h : n > 65535) : foldN (n % 65536 + n / 65536) = foldN n := by
  unfold foldN
  rw [if_neg (by omega), if_neg (by omega)]
  omega
theorem fold_bd {n : Int} (h : 0 ≤ n) : 0 ≤ foldN n ∧ foldN n ≤ 65535 := by
  unfold foldN
  split <;> omega
theorem fold_add {a b : Int} (ha : 0 ≤ a) (hb : 0 ≤ b) : foldN (foldN a + b) = foldN (a + b) := by
  unfold foldN
  split
  · rename_i h
    subst h
    simp
  · rw [if_neg (by omega), if_neg (by omega)]
    omega
/-- bytes as numbers of two of them, added -/
def tot16 : List UInt8 → Nat
  | [] => 0
  | [x] => 256 * x.toNat
  | x :: y :: l => 256 * x.toNat + y.toNat + tot16 l
theorem tot_bd : ∀ l : List UInt8, tot16 l ≤ 65535 * l.length
  | [] => Nat.le_refl _
  | [x] => by have := x.toNat_lt; simp only [tot16, List.length_cons, List.length_nil]; omega
  | x :: y :: l => by
    have := x.toNat_lt; have := y.toNat_lt; have := tot_bd l
    simp only [tot16, List.length_cons]; omega
theorem tot_append : ∀ (l m : List UInt8), l.length % 2 = 0 → tot16 (l ++ m) = tot16 l + tot16 m
  | [], m, _ => by simp [tot16]
  | [x], m, h => by simp at h
  | x :: y :: l, m, h => by
    have := tot_append l m (by simp at h ⊢; omega)
    simp only [List.cons_append, tot16, this]; omega
theorem tot_pad (l : List UInt8) : tot16 (l ++ [0]) = tot16 l := by
  match l with
  | [] => rfl
  | [x] => rfl
  | x :: y :: l =>
    have := tot_pad l
    simp only [List.cons_append, tot16, this]
end Go.Proofs.Ytodfcalaggfldaa.Inet
namespace Go.Proofs.Ytodfcalaggfldaa
set_option linter.unusedVariables false
set_option linter.unusedSimpArgs false
open Go.RowKit Sym Sha Go.ChangeShapes Go.WideShapes Go.ChangeMaps Inet

set_option maxRecDepth 100000 in
theorem fold_run (n : Int) : runV Try.prog (onlyS Try.prog noS) (LUn Try.prog (onlyS Try.prog noS) Try.f125 3) Try.f125 [.int .i64 n] = .ite (decide (n > (65535 : Int))) (.ite (decide (IntKind.i64.wrap (IntKind.i64.wrap (↑(Nat.bitwise Bool.and (n % (18446744073709551616 : Int)).toNat 65535) : Int) + n.fdiv (65536 : Int)) > (65535 : Int))) (.ite (decide (IntKind.i64.wrap (IntKind.i64.wrap (↑(Nat.bitwise Bool.and (IntKind.i64.wrap (IntKind.i64.wrap (↑(Nat.bitwise Bool.and (n % (18446744073709551616 : Int)).toNat 65535) : Int) + n.fdiv (65536 : Int)) % (18446744073709551616 : Int)).toNat 65535) : Int) + (IntKind.i64.wrap (IntKind.i64.wrap (↑(Nat.bitwise Bool.and (n % (18446744073709551616 : Int)).toNat 65535) : Int) + n.fdiv (65536 : Int))).fdiv (65536 : Int)) > (65535 : Int))) (T.stuck 38) (.leaf (Value.int IntKind.i64 (IntKind.i64.wrap (IntKind.i64.wrap (↑(Nat.bitwise Bool.and (IntKind.i64.wrap (IntKind.i64.wrap (↑(Nat.bitwise Bool.and (n % (18446744073709551616 : Int)).toNat 65535) : Int) + n.fdiv (65536 : Int)) % (18446744073709551616 : Int)).toNat 65535) : Int) + (IntKind.i64.wrap (IntKind.i64.wrap (↑(Nat.bitwise Bool.and (n % (18446744073709551616 : Int)).toNat 65535) : Int) + n.fdiv (65536 : Int))).fdiv (65536 : Int)))))) (.leaf (Value.int IntKind.i64 (IntKind.i64.wrap (IntKind.i64.wrap (↑(Nat.bitwise Bool.and (n % (18446744073709551616 : Int)).toNat 65535) : Int) + n.fdiv (65536 : Int)))))) (.leaf (Value.int IntKind.i64 n)) := by kernel_rfl
set_option maxRecDepth 100000 in
theorem pseudo_run (f t z : Int) : runV Try.prog (onlyS Try.prog SOct) noL Try.f99 [.int .i64 f, .int .i64 t, .int .i64 z] = .need ((0 : Int) ≤ (4 : Int) ∧ (4 : Int) ≤ (8 : Int) ∧ (ByteArray.mk #[]).size ≤ 1099511627776) (.need ((0 : Int) ≤ (4 : Int) ∧ (4 : Int) ≤ (8 : Int) ∧ (Oct.put (ByteArray.mk #[]) f (4 : Int)).size ≤ 1099511627776) (.need ((0 : Int) ≤ (2 : Int) ∧ (2 : Int) ≤ (8 : Int) ∧ (Oct.put (Oct.put (ByteArray.mk #[]) f (4 : Int)) t (4 : Int)).size ≤ 1099511627776) (.need ((0 : Int) ≤ (2 : Int) ∧ (2 : Int) ≤ (8 : Int) ∧ (Oct.put (Oct.put (Oct.put (ByteArray.mk #[]) f (4 : Int)) t (4 : Int)) (33 : Int) (2 : Int)).size ≤ 1099511627776) (.leaf (Value.string (Oct.put (Oct.put (Oct.put (Oct.put (ByteArray.mk (Array.mk [])) f (4 : Int)) t (4 : Int)) (33 : Int) (2 : Int)) z (2 : Int))))))) := by kernel_rfl
set_option maxRecDepth 100000 in
theorem pseudoR_run (f t z : Int) : runV Try.prog (onlyS Try.prog SOct) noL Try.f101 [.int .i64 f, .int .i64 t, .int .i64 z] = .need ((0 : Int) ≤ IntKind.u64.wrap f ∧ IntKind.u64.wrap f < (18446744073709551616 : Int) ∧ (0 : Int) ≤ (4 : Int) ∧ (4 : Int) ≤ (8 : Int) ∧ (ByteArray.mk #[]).size ≤ 1099511627776) (.need ((0 : Int) ≤ IntKind.u64.wrap t ∧ IntKind.u64.wrap t < (18446744073709551616 : Int) ∧ (0 : Int) ≤ (4 : Int) ∧ (4 : Int) ≤ (8 : Int) ∧ (Oct.put (ByteArray.mk #[]) (IntKind.u64.wrap f) (4 : Int)).size ≤ 1099511627776) (.need ((Oct.put (Oct.put (ByteArray.mk (Array.mk [])) (IntKind.u64.wrap f) (4 : Int)) (IntKind.u64.wrap t) (4 : Int)).size + 2 ≤ 9223372036854775807) (.need ((0 : Int) ≤ IntKind.u64.wrap z ∧ IntKind.u64.wrap z < (18446744073709551616 : Int) ∧ (0 : Int) ≤ (2 : Int) ∧ (2 : Int) ≤ (8 : Int) ∧ (Oct.put (Oct.put (ByteArray.mk #[]) (IntKind.u64.wrap f) (4 : Int)) (IntKind.u64.wrap t) (4 : Int) ++ ByteArray.mk #[(0 : UInt8), (33 : UInt8)]).size ≤ 1099511627776) (.leaf (Value.string (Oct.put (Oct.put (Oct.put (ByteArray.mk (Array.mk [])) (IntKind.u64.wrap f) (4 : Int)) (IntKind.u64.wrap t) (4 : Int) ++ ByteArray.mk (Array.mk [UInt8.ofBitVec (BitVec.ofFin (Fin.mk 0 (Nat.mod_lt 0 (BitVec.ofNat._proof_1 8)))), UInt8.ofBitVec (BitVec.ofFin (Fin.mk 33 (Nat.mod_lt 33 (BitVec.ofNat._proof_1 8))))])) (IntKind.u64.wrap z) (2 : Int))))))) := by kernel_rfl
set_option maxRecDepth 100000 in
theorem cov_run (h d : ByteArray) (c : Int) : runV Try.prog (onlyS Try.prog noS) noL Try.f57 [.string h, .string d, .int .i64 c] = .ite (decide (c < (0 : Int))) (.leaf (Value.tuple (Array.mk [Value.string (ByteArray.mk (Array.mk [])), Value.bool false]))) (.ite (decide (c > (15 : Int))) (.leaf (Value.tuple (Array.mk [Value.string (ByteArray.mk (Array.mk [])), Value.bool false]))) (.ite (decide (IntKind.i64.wrap ((4 : Int) * IntKind.i64.wrap (c - (1 : Int))) > (↑d.size : Int))) (.leaf (Value.tuple (Array.mk [Value.string (ByteArray.mk (Array.mk [])), Value.bool false]))) (.ite (decide (c = (0 : Int))) (.need ((0 : Int) ≤ (0 : Int) ∧ (0 : Int) ≤ (↑d.size : Int) ∧ (↑d.size : Int) ≤ (↑d.size : Int)) (.need (h.size + (d.extract 0 (↑d.size : Int).toNat).size ≤ 9223372036854775807) (.leaf (Value.tuple (Array.mk [Value.string (h ++ d.extract 0 (↑d.size : Int).toNat), Value.bool true]))))) (.need ((0 : Int) ≤ (0 : Int) ∧ (0 : Int) ≤ IntKind.i64.wrap ((4 : Int) * IntKind.i64.wrap (c - (1 : Int))) ∧ IntKind.i64.wrap ((4 : Int) * IntKind.i64.wrap (c - (1 : Int))) ≤ (↑d.size : Int)) (.need (h.size + (d.extract 0 (IntKind.i64.wrap ((4 : Int) * IntKind.i64.wrap (c - (1 : Int)))).toNat).size ≤ 9223372036854775807) (.leaf (Value.tuple (Array.mk [Value.string (h ++ d.extract 0 (IntKind.i64.wrap ((4 : Int) * IntKind.i64.wrap (c - (1 : Int)))).toNat), Value.bool true])))))))) := by kernel_rfl
set_option maxRecDepth 100000 in
theorem covR_run (h d : ByteArray) (c : Int) : runV Try.prog (onlyS Try.prog noS) noL Try.f64 [.string h, .string d, .int .i64 c] = .ite (decide (c < (0 : Int))) (.leaf (Value.tuple (Array.mk [Value.string (ByteArray.mk (Array.mk [])), Value.bool false]))) (.ite (decide (c > (15 : Int))) (.leaf (Value.tuple (Array.mk [Value.string (ByteArray.mk (Array.mk [])), Value.bool false]))) (.ite (decide (c = (0 : Int))) (.need (h.size + d.size ≤ 9223372036854775807) (.leaf (Value.tuple (Array.mk [Value.string (h ++ d), Value.bool true])))) (.ite (decide (IntKind.i64.wrap ((4 : Int) * IntKind.i64.wrap (c - (1 : Int))) > (↑d.size : Int))) (.leaf (Value.tuple (Array.mk [Value.string (ByteArray.mk (Array.mk [])), Value.bool false]))) (.need ((0 : Int) ≤ (0 : Int) ∧ (0 : Int) ≤ IntKind.i64.wrap ((4 : Int) * IntKind.i64.wrap (c - (1 : Int))) ∧ IntKind.i64.wrap ((4 : Int) * IntKind.i64.wrap (c - (1 : Int))) ≤ (↑d.size : Int)) (.need (h.size + (d.extract 0 (IntKind.i64.wrap ((4 : Int) * IntKind.i64.wrap (c - (1 : Int)))).toNat).size ≤ 9223372036854775807) (.leaf (Value.tuple (Array.mk [Value.string (h ++ d.extract 0 (IntKind.i64.wrap ((4 : Int) * IntKind.i64.wrap (c - (1 : Int)))).toNat), Value.bool true])))))))) := by kernel_rfl
end Go.Proofs.Ytodfcalaggfldaa
namespace Go.Proofs.Ytodfcalaggfldaa
set_option linter.unusedVariables false
set_option linter.unusedSimpArgs false
open Go.RowKit Sym Sha Go.ChangeShapes Go.WideShapes Go.ChangeMaps Inet

theorem and_low (n : Int) (h0 : 0 ≤ n) (h1 : n < 18446744073709551616) : ((Nat.bitwise Bool.and (n % 18446744073709551616).toNat 65535 : Nat) : Int) = n % 65536 := by
  have e : (n % 18446744073709551616).toNat = n.toNat := by omega
  rw [e]
  have h : Nat.bitwise Bool.and n.toNat 65535 = n.toNat % 65536 := Nat.and_two_pow_sub_one_eq_mod n.toNat 16
  rw [h]
  omega
theorem inet_fold (n : Int) (h : 0 ≤ n ∧ n ≤ 131070) (w : World) : Calls Try.prog 125 #[.int .i64 n] w fun e w' => e = .returned (.int .i64 (foldN n)) ∧ Below w.heap.size w w' := by
  refine calls_runV (onlyS_ok noS_ok) follows Try.func125 (by kernel_rfl) (by kernel_rfl) (one_loop (by kernel_rfl) fun st t h => by
    rw [addL_same h]; exact unroll_ok (onlyS_ok noS_ok) follows (by kernel_rfl) (fun _ _ h => by revert h; rw [show loopsOf (loopAt Try.f125 0) = [] by kernel_rfl]; simp) 3 st) (fold_run n) ?_ w
  have e1 := and_low n h.1 (by omega)
  have e2 : n.fdiv 65536 = n / 65536 := Int.fdiv_eq_ediv_of_nonneg _ (by decide)
  have e3 : IntKind.i64.wrap (n % 65536) = n % 65536 := w64 _ (by omega) (by omega)
  have e4 : IntKind.i64.wrap (n % 65536 + n / 65536) = n % 65536 + n / 65536 := w64 _ (by omega) (by omega)
  rw [e1, e2, e3, e4]
  refine ⟨fun k => ⟨fun k2 => ?_, fun k2 => ?_⟩, fun k => ?_⟩
  · have k := of_decide_eq_true k
    have k2 := of_decide_eq_true k2
    omega
  · have k := of_decide_eq_true k
    show Value.int .i64 (n % 65536 + n / 65536) = Value.int .i64 (foldN n)
    rw [← fold_step k, fold_small (by omega) (by omega)]
  · have k := of_decide_eq_false k
    show Value.int .i64 n = Value.int .i64 (foldN n)
    rw [fold_small h.1 (by omega)]
def pseuB (f t z : Int) : ByteArray := Oct.put (Oct.put (Oct.put (Oct.put ⟨⟨[]⟩⟩ f 4) t 4) 33 2) z 2
theorem put33 (s : ByteArray) : Oct.put s 33 2 = s ++ ⟨#[0, 33]⟩ := by
  apply ByteArray.ext
  rw [ByteArray.data_append]
  unfold Oct.put
  apply Array.ext'
  simp
  rfl
theorem pseuB_size (f t z : Int) : (pseuB f t z).size = 12 := by unfold pseuB; rw [Oct.put_size, Oct.put_size, Oct.put_size, Oct.put_size]; rfl
theorem inet_Pseudo (f t z : Int) (w : World) : Calls Try.prog 99 #[.int .i64 f, .int .i64 t, .int .i64 z] w fun e w' => e = .returned (.string (pseuB f t z)) ∧ Below w.heap.size w w' := by
  refine calls_runV (onlyS_ok SOct_ok) follows Try.func99 (by kernel_rfl) (by kernel_rfl) noL_ok (pseudo_run f t z) ?_ w
  have z1 : (Oct.put ⟨⟨[]⟩⟩ f 4).size = 4 := by rw [Oct.put_size]; rfl
  have z2 : (Oct.put (Oct.put ⟨⟨[]⟩⟩ f 4) t 4).size = 8 := by rw [Oct.put_size, z1]; rfl
  have z3 : (Oct.put (Oct.put (Oct.put ⟨⟨[]⟩⟩ f 4) t 4) 33 2).size = 10 := by rw [Oct.put_size, z2]; rfl
  refine ⟨⟨by decide, by decide, by decide⟩, ⟨by decide, by decide, ?_⟩, ⟨by decide, by decide, ?_⟩, ⟨by decide, by decide, ?_⟩, rfl⟩
  · show (Oct.put ⟨⟨[]⟩⟩ f 4).size ≤ _
    rw [z1]; decide
  · show (Oct.put (Oct.put ⟨⟨[]⟩⟩ f 4) t 4).size ≤ _
    rw [z2]; decide
  · show (Oct.put (Oct.put (Oct.put ⟨⟨[]⟩⟩ f 4) t 4) 33 2).size ≤ _
    rw [z3]; decide
theorem ref04_Pseudo (f t z : Int) (w : World) : Calls Try.prog 101 #[.int .i64 f, .int .i64 t, .int .i64 z] w fun e w' => e = .returned (.string (pseuB f t z)) ∧ Below w.heap.size w w' := by
  refine calls_runV (onlyS_ok SOct_ok) follows Try.func101 (by kernel_rfl) (by kernel_rfl) noL_ok (pseudoR_run f t z) ?_ w
  have z1 : (Oct.put ⟨⟨[]⟩⟩ f 4).size = 4 := by rw [Oct.put_size]; rfl
  have z2 : (Oct.put (Oct.put ⟨⟨[]⟩⟩ f 4) t 4).size = 8 := by rw [Oct.put_size, z1]; rfl
  have z3 : (Oct.put (Oct.put ⟨⟨[]⟩⟩ f 4) t 4 ++ ⟨#[0, 33]⟩).size = 10 := by rw [ByteArray.size_append, z2]; rfl
  have uf := u64_range f
  have ut := u64_range t
  have uz := u64_range z
  simp only [put_u64]
  refine ⟨⟨uf.1, uf.2, by decide, by decide, by decide⟩, ⟨ut.1, ut.2, by decide, by decide, ?_⟩, ?_, ⟨uz.1, uz.2, by decide, by decide, ?_⟩, ?_⟩
  · show (Oct.put ⟨⟨[]⟩⟩ f 4).size ≤ _
    rw [z1]; decide
  · show (Oct.put (Oct.put ⟨⟨[]⟩⟩ f 4) t 4).size + 2 ≤ _
    rw [z2]; decide
  · show (Oct.put (Oct.put ⟨⟨[]⟩⟩ f 4) t 4 ++ ⟨#[0, 33]⟩).size ≤ _
    rw [z3]; decide
  · show Value.string (Oct.put (Oct.put (Oct.put ⟨⟨[]⟩⟩ f 4) t 4 ++ ⟨#[0, 33]⟩) z 2) = Value.string (pseuB f t z)
    unfold pseuB
    rw [put33]
def covOk (d : ByteArray) (c : Int) : Bool := decide (0 ≤ c ∧ c ≤ 15 ∧ (c = 0 ∨ 4 * (c - 1) ≤ d.size))
def covB (h d : ByteArray) (c : Int) : ByteArray := if covOk d c = true then (if c = 0 then h ++ d else h ++ d.extract 0 (4 * (c - 1)).toNat) else ⟨⟨[]⟩⟩
end Go.Proofs.Ytodfcalaggfldaa
